/- Each function of the plain machine is what the program's own function compiles to. -/
import Derived.Test.YtpilfppdiifbjaaFn
import Derived.Test.YtpilfppdiifbjaaAm6
import Derived.Test.YtpilfppdiifbjaaChecked
import Derived.KernelRfl
set_option maxRecDepth 100000
namespace Go.Proofs.Ytpilfppdiifbjaa.Am
theorem ok3 : FnOK Try.prog (3, F3) := ⟨Try.f3, by kernel_rfl, by kernel_rfl, by kernel_rfl⟩
theorem ok4 : FnOK Try.prog (4, F4) := ⟨Try.f4, by kernel_rfl, by kernel_rfl, by kernel_rfl⟩
theorem ok5 : FnOK Try.prog (5, F5) := ⟨Try.f5, by kernel_rfl, by kernel_rfl, by kernel_rfl⟩
theorem ok6 : FnOK Try.prog (6, F6) := ⟨Try.f6, by kernel_rfl, by kernel_rfl, by kernel_rfl⟩
theorem ok7 : FnOK Try.prog (7, F7) := ⟨Try.f7, by kernel_rfl, by kernel_rfl, by kernel_rfl⟩
theorem ok8 : FnOK Try.prog (8, F8) := ⟨Try.f8, by kernel_rfl, by kernel_rfl, by kernel_rfl⟩
theorem ok9 : FnOK Try.prog (9, F9) := ⟨Try.f9, by kernel_rfl, by kernel_rfl, by kernel_rfl⟩
theorem ok10 : FnOK Try.prog (10, F10) := ⟨Try.f10, by kernel_rfl, by kernel_rfl, by kernel_rfl⟩
theorem ok11 : FnOK Try.prog (11, F11) := ⟨Try.f11, by kernel_rfl, by kernel_rfl, by kernel_rfl⟩
theorem ok12 : FnOK Try.prog (12, F12) := ⟨Try.f12, by kernel_rfl, by kernel_rfl, by kernel_rfl⟩
theorem ok13 : FnOK Try.prog (13, F13) := ⟨Try.f13, by kernel_rfl, by kernel_rfl, by kernel_rfl⟩
theorem ok14 : FnOK Try.prog (14, F14) := ⟨Try.f14, by kernel_rfl, by kernel_rfl, by kernel_rfl⟩
theorem ok15 : FnOK Try.prog (15, F15) := ⟨Try.f15, by kernel_rfl, by kernel_rfl, by kernel_rfl⟩
theorem ok16 : FnOK Try.prog (16, F16) := ⟨Try.f16, by kernel_rfl, by kernel_rfl, by kernel_rfl⟩
theorem ok17 : FnOK Try.prog (17, F17) := ⟨Try.f17, by kernel_rfl, by kernel_rfl, by kernel_rfl⟩
theorem ok18 : FnOK Try.prog (18, F18) := ⟨Try.f18, by kernel_rfl, by kernel_rfl, by kernel_rfl⟩
theorem ok19 : FnOK Try.prog (19, F19) := ⟨Try.f19, by kernel_rfl, by kernel_rfl, by kernel_rfl⟩
theorem ok20 : FnOK Try.prog (20, F20) := ⟨Try.f20, by kernel_rfl, by kernel_rfl, by kernel_rfl⟩
theorem ok21 : FnOK Try.prog (21, F21) := ⟨Try.f21, by kernel_rfl, by kernel_rfl, by kernel_rfl⟩
theorem ok22 : FnOK Try.prog (22, F22) := ⟨Try.f22, by kernel_rfl, by kernel_rfl, by kernel_rfl⟩
theorem ok23 : FnOK Try.prog (23, F23) := ⟨Try.f23, by kernel_rfl, by kernel_rfl, by kernel_rfl⟩
theorem ok24 : FnOK Try.prog (24, F24) := ⟨Try.f24, by kernel_rfl, by kernel_rfl, by kernel_rfl⟩
theorem ok25 : FnOK Try.prog (25, F25) := ⟨Try.f25, by kernel_rfl, by kernel_rfl, by kernel_rfl⟩
theorem ok26 : FnOK Try.prog (26, F26) := ⟨Try.f26, by kernel_rfl, by kernel_rfl, by kernel_rfl⟩
theorem ok27 : FnOK Try.prog (27, F27) := ⟨Try.f27, by kernel_rfl, by kernel_rfl, by kernel_rfl⟩
theorem ok28 : FnOK Try.prog (28, F28) := ⟨Try.f28, by kernel_rfl, by kernel_rfl, by kernel_rfl⟩
theorem ok29 : FnOK Try.prog (29, F29) := ⟨Try.f29, by kernel_rfl, by kernel_rfl, by kernel_rfl⟩
theorem ok30 : FnOK Try.prog (30, F30) := ⟨Try.f30, by kernel_rfl, by kernel_rfl, by kernel_rfl⟩
theorem ok31 : FnOK Try.prog (31, F31) := ⟨Try.f31, by kernel_rfl, by kernel_rfl, by kernel_rfl⟩
theorem ok32 : FnOK Try.prog (32, F32) := ⟨Try.f32, by kernel_rfl, by kernel_rfl, by kernel_rfl⟩
theorem ok33 : FnOK Try.prog (33, F33) := ⟨Try.f33, by kernel_rfl, by kernel_rfl, by kernel_rfl⟩
theorem ok34 : FnOK Try.prog (34, F34) := ⟨Try.f34, by kernel_rfl, by kernel_rfl, by kernel_rfl⟩
theorem ok35 : FnOK Try.prog (35, F35) := ⟨Try.f35, by kernel_rfl, by kernel_rfl, by kernel_rfl⟩
theorem ok36 : FnOK Try.prog (36, F36) := ⟨Try.f36, by kernel_rfl, by kernel_rfl, by kernel_rfl⟩
theorem ok37 : FnOK Try.prog (37, F37) := ⟨Try.f37, by kernel_rfl, by kernel_rfl, by kernel_rfl⟩
theorem ok38 : FnOK Try.prog (38, F38) := ⟨Try.f38, by kernel_rfl, by kernel_rfl, by kernel_rfl⟩
theorem ok39 : FnOK Try.prog (39, F39) := ⟨Try.f39, by kernel_rfl, by kernel_rfl, by kernel_rfl⟩
theorem ok40 : FnOK Try.prog (40, F40) := ⟨Try.f40, by kernel_rfl, by kernel_rfl, by kernel_rfl⟩
theorem ok41 : FnOK Try.prog (41, F41) := ⟨Try.f41, by kernel_rfl, by kernel_rfl, by kernel_rfl⟩
theorem ok42 : FnOK Try.prog (42, F42) := ⟨Try.f42, by kernel_rfl, by kernel_rfl, by kernel_rfl⟩
theorem ok43 : FnOK Try.prog (43, F43) := ⟨Try.f43, by kernel_rfl, by kernel_rfl, by kernel_rfl⟩
theorem ok44 : FnOK Try.prog (44, F44) := ⟨Try.f44, by kernel_rfl, by kernel_rfl, by kernel_rfl⟩
theorem ok45 : FnOK Try.prog (45, F45) := ⟨Try.f45, by kernel_rfl, by kernel_rfl, by kernel_rfl⟩
theorem ok46 : FnOK Try.prog (46, F46) := ⟨Try.f46, by kernel_rfl, by kernel_rfl, by kernel_rfl⟩
theorem ok47 : FnOK Try.prog (47, F47) := ⟨Try.f47, by kernel_rfl, by kernel_rfl, by kernel_rfl⟩
theorem ok48 : FnOK Try.prog (48, F48) := ⟨Try.f48, by kernel_rfl, by kernel_rfl, by kernel_rfl⟩
theorem ok49 : FnOK Try.prog (49, F49) := ⟨Try.f49, by kernel_rfl, by kernel_rfl, by kernel_rfl⟩
theorem ok50 : FnOK Try.prog (50, F50) := ⟨Try.f50, by kernel_rfl, by kernel_rfl, by kernel_rfl⟩
theorem ok51 : FnOK Try.prog (51, F51) := ⟨Try.f51, by kernel_rfl, by kernel_rfl, by kernel_rfl⟩
theorem ok52 : FnOK Try.prog (52, F52) := ⟨Try.f52, by kernel_rfl, by kernel_rfl, by kernel_rfl⟩
theorem ok53 : FnOK Try.prog (53, F53) := ⟨Try.f53, by kernel_rfl, by kernel_rfl, by kernel_rfl⟩
theorem ok54 : FnOK Try.prog (54, F54) := ⟨Try.f54, by kernel_rfl, by kernel_rfl, by kernel_rfl⟩
theorem ok55 : FnOK Try.prog (55, F55) := ⟨Try.f55, by kernel_rfl, by kernel_rfl, by kernel_rfl⟩
theorem ok56 : FnOK Try.prog (56, F56) := ⟨Try.f56, by kernel_rfl, by kernel_rfl, by kernel_rfl⟩
theorem ok57 : FnOK Try.prog (57, F57) := ⟨Try.f57, by kernel_rfl, by kernel_rfl, by kernel_rfl⟩
theorem ok58 : FnOK Try.prog (58, F58) := ⟨Try.f58, by kernel_rfl, by kernel_rfl, by kernel_rfl⟩
theorem ok59 : FnOK Try.prog (59, F59) := ⟨Try.f59, by kernel_rfl, by kernel_rfl, by kernel_rfl⟩
theorem ok60 : FnOK Try.prog (60, F60) := ⟨Try.f60, by kernel_rfl, by kernel_rfl, by kernel_rfl⟩
theorem ok61 : FnOK Try.prog (61, F61) := ⟨Try.f61, by kernel_rfl, by kernel_rfl, by kernel_rfl⟩
theorem ok62 : FnOK Try.prog (62, F62) := ⟨Try.f62, by kernel_rfl, by kernel_rfl, by kernel_rfl⟩
theorem ok63 : FnOK Try.prog (63, F63) := ⟨Try.f63, by kernel_rfl, by kernel_rfl, by kernel_rfl⟩
theorem ok64 : FnOK Try.prog (64, F64) := ⟨Try.f64, by kernel_rfl, by kernel_rfl, by kernel_rfl⟩
theorem ok65 : FnOK Try.prog (65, F65) := ⟨Try.f65, by kernel_rfl, by kernel_rfl, by kernel_rfl⟩
theorem ok66 : FnOK Try.prog (66, F66) := ⟨Try.f66, by kernel_rfl, by kernel_rfl, by kernel_rfl⟩
theorem ok67 : FnOK Try.prog (67, F67) := ⟨Try.f67, by kernel_rfl, by kernel_rfl, by kernel_rfl⟩
theorem ok68 : FnOK Try.prog (68, F68) := ⟨Try.f68, by kernel_rfl, by kernel_rfl, by kernel_rfl⟩
theorem ok69 : FnOK Try.prog (69, F69) := ⟨Try.f69, by kernel_rfl, by kernel_rfl, by kernel_rfl⟩
theorem ok70 : FnOK Try.prog (70, F70) := ⟨Try.f70, by kernel_rfl, by kernel_rfl, by kernel_rfl⟩
theorem ok71 : FnOK Try.prog (71, F71) := ⟨Try.f71, by kernel_rfl, by kernel_rfl, by kernel_rfl⟩
theorem ok72 : FnOK Try.prog (72, F72) := ⟨Try.f72, by kernel_rfl, by kernel_rfl, by kernel_rfl⟩
theorem ok73 : FnOK Try.prog (73, F73) := ⟨Try.f73, by kernel_rfl, by kernel_rfl, by kernel_rfl⟩
theorem ok74 : FnOK Try.prog (74, F74) := ⟨Try.f74, by kernel_rfl, by kernel_rfl, by kernel_rfl⟩
theorem ok75 : FnOK Try.prog (75, F75) := ⟨Try.f75, by kernel_rfl, by kernel_rfl, by kernel_rfl⟩
def tabL : List (Nat × AFn) := [(3, F3), (4, F4), (5, F5), (6, F6), (7, F7), (8, F8), (9, F9), (10, F10), (11, F11), (12, F12), (13, F13), (14, F14), (15, F15), (16, F16), (17, F17), (18, F18), (19, F19), (20, F20), (21, F21), (22, F22), (23, F23), (24, F24), (25, F25), (26, F26), (27, F27), (28, F28), (29, F29), (30, F30), (31, F31), (32, F32), (33, F33), (34, F34), (35, F35), (36, F36), (37, F37), (38, F38), (39, F39), (40, F40), (41, F41), (42, F42), (43, F43), (44, F44), (45, F45), (46, F46), (47, F47), (48, F48), (49, F49), (50, F50), (51, F51), (52, F52), (53, F53), (54, F54), (55, F55), (56, F56), (57, F57), (58, F58), (59, F59), (60, F60), (61, F61), (62, F62), (63, F63), (64, F64), (65, F65), (66, F66), (67, F67), (68, F68), (69, F69), (70, F70), (71, F71), (72, F72), (73, F73), (74, F74), (75, F75)]
theorem tabL_ok : ∀ p ∈ tabL, FnOK Try.prog p := by
  unfold tabL
  simp only [List.forall_mem_cons]
  exact ⟨ok3, ok4, ok5, ok6, ok7, ok8, ok9, ok10, ok11, ok12, ok13, ok14, ok15, ok16, ok17, ok18, ok19, ok20, ok21, ok22, ok23, ok24, ok25, ok26, ok27, ok28, ok29, ok30, ok31, ok32, ok33, ok34, ok35, ok36, ok37, ok38, ok39, ok40, ok41, ok42, ok43, ok44, ok45, ok46, ok47, ok48, ok49, ok50, ok51, ok52, ok53, ok54, ok55, ok56, ok57, ok58, ok59, ok60, ok61, ok62, ok63, ok64, ok65, ok66, ok67, ok68, ok69, ok70, ok71, ok72, ok73, ok74, ok75, fun _ h => by cases h⟩
theorem tabL_tab : Tab (tabC tabL) := ⟨by kernel_rfl, by kernel_rfl, by kernel_rfl, by kernel_rfl, by kernel_rfl, by kernel_rfl, by kernel_rfl, by kernel_rfl, by kernel_rfl, by kernel_rfl, by kernel_rfl, by kernel_rfl, by kernel_rfl, by kernel_rfl, by kernel_rfl, by kernel_rfl, by kernel_rfl, by kernel_rfl, by kernel_rfl, by kernel_rfl, by kernel_rfl, by kernel_rfl, by kernel_rfl, by kernel_rfl, by kernel_rfl, by kernel_rfl, by kernel_rfl, by kernel_rfl, by kernel_rfl, by kernel_rfl, by kernel_rfl, by kernel_rfl, by kernel_rfl, by kernel_rfl, by kernel_rfl, by kernel_rfl, by kernel_rfl, by kernel_rfl, by kernel_rfl, by kernel_rfl, by kernel_rfl, by kernel_rfl, by kernel_rfl, by kernel_rfl, by kernel_rfl, by kernel_rfl, by kernel_rfl, by kernel_rfl, by kernel_rfl, by kernel_rfl, by kernel_rfl, by kernel_rfl, by kernel_rfl, by kernel_rfl, by kernel_rfl, by kernel_rfl, by kernel_rfl, by kernel_rfl, by kernel_rfl, by kernel_rfl, by kernel_rfl, by kernel_rfl, by kernel_rfl, by kernel_rfl, by kernel_rfl, by kernel_rfl, by kernel_rfl, by kernel_rfl, by kernel_rfl, by kernel_rfl, by kernel_rfl, by kernel_rfl, by kernel_rfl⟩
end Go.Proofs.Ytpilfppdiifbjaa.Am
