import Derived.Test.YtfhdfpejjgmdcaaGreatDoorFst1
set_option linter.unusedSimpArgs false
set_option linter.unusedVariables false
/- The trees of the seeds 118 [1]. -/
namespace Go.Sha
theorem own1_0 : pubKey [118, 1, 0, 0, 0, 0, 0, 0] 0 = [56, 178, 181, 3, 237, 4, 222, 225] := (pub_fast _ _).trans (by kernel_rfl)
theorem own1_1 : pubKey [118, 1, 0, 0, 0, 0, 0, 0] 1 = [202, 67, 123, 118, 52, 58, 102, 200] := (pub_fast _ _).trans (by kernel_rfl)
theorem own1_2 : pubKey [118, 1, 0, 0, 0, 0, 0, 0] 2 = [69, 204, 20, 163, 14, 84, 244, 192] := (pub_fast _ _).trans (by kernel_rfl)
theorem own1_3 : pubKey [118, 1, 0, 0, 0, 0, 0, 0] 3 = [101, 205, 85, 183, 173, 144, 235, 219] := (pub_fast _ _).trans (by kernel_rfl)
theorem own1_4 : pubKey [118, 1, 0, 0, 0, 0, 0, 0] 4 = [28, 206, 178, 177, 81, 182, 197, 140] := (pub_fast _ _).trans (by kernel_rfl)
theorem own1_5 : pubKey [118, 1, 0, 0, 0, 0, 0, 0] 5 = [97, 99, 115, 100, 116, 28, 192, 164] := (pub_fast _ _).trans (by kernel_rfl)
theorem own1_6 : pubKey [118, 1, 0, 0, 0, 0, 0, 0] 6 = [161, 208, 165, 69, 209, 163, 31, 127] := (pub_fast _ _).trans (by kernel_rfl)
theorem own1_7 : pubKey [118, 1, 0, 0, 0, 0, 0, 0] 7 = [153, 159, 150, 110, 85, 28, 80, 79] := (pub_fast _ _).trans (by kernel_rfl)
theorem owner1 : treeOf [118, 1, 0, 0, 0, 0, 0, 0] = [156, 76, 241, 144, 211, 208, 104, 49] := (tree_fast own1_0 own1_1 own1_2 own1_3 own1_4 own1_5 own1_6 own1_7).trans (by kernel_rfl)
end Go.Sha

/- The trees of the seeds 118 [0, 2, 3]. -/
namespace Go.Sha
theorem own0_0 : pubKey [118, 0, 0, 0, 0, 0, 0, 0] 0 = [182, 177, 6, 140, 176, 203, 28, 228] := (pub_fast _ _).trans (by kernel_rfl)
theorem own0_1 : pubKey [118, 0, 0, 0, 0, 0, 0, 0] 1 = [90, 58, 56, 74, 98, 125, 33, 128] := (pub_fast _ _).trans (by kernel_rfl)
theorem own0_2 : pubKey [118, 0, 0, 0, 0, 0, 0, 0] 2 = [8, 227, 138, 82, 98, 212, 78, 248] := (pub_fast _ _).trans (by kernel_rfl)
theorem own0_3 : pubKey [118, 0, 0, 0, 0, 0, 0, 0] 3 = [90, 10, 111, 195, 161, 234, 132, 228] := (pub_fast _ _).trans (by kernel_rfl)
theorem own0_4 : pubKey [118, 0, 0, 0, 0, 0, 0, 0] 4 = [128, 186, 53, 103, 24, 223, 29, 182] := (pub_fast _ _).trans (by kernel_rfl)
theorem own0_5 : pubKey [118, 0, 0, 0, 0, 0, 0, 0] 5 = [191, 115, 213, 39, 205, 58, 109, 1] := (pub_fast _ _).trans (by kernel_rfl)
theorem own0_6 : pubKey [118, 0, 0, 0, 0, 0, 0, 0] 6 = [44, 145, 206, 87, 55, 212, 159, 123] := (pub_fast _ _).trans (by kernel_rfl)
theorem own0_7 : pubKey [118, 0, 0, 0, 0, 0, 0, 0] 7 = [78, 4, 41, 151, 165, 87, 204, 201] := (pub_fast _ _).trans (by kernel_rfl)
theorem owner0 : treeOf [118, 0, 0, 0, 0, 0, 0, 0] = [89, 243, 141, 14, 110, 122, 193, 48] := (tree_fast own0_0 own0_1 own0_2 own0_3 own0_4 own0_5 own0_6 own0_7).trans (by kernel_rfl)
theorem own2_0 : pubKey [118, 2, 0, 0, 0, 0, 0, 0] 0 = [83, 98, 13, 16, 63, 117, 68, 113] := (pub_fast _ _).trans (by kernel_rfl)
theorem own2_1 : pubKey [118, 2, 0, 0, 0, 0, 0, 0] 1 = [115, 187, 42, 129, 64, 2, 211, 24] := (pub_fast _ _).trans (by kernel_rfl)
theorem own2_2 : pubKey [118, 2, 0, 0, 0, 0, 0, 0] 2 = [42, 164, 242, 86, 212, 217, 41, 128] := (pub_fast _ _).trans (by kernel_rfl)
theorem own2_3 : pubKey [118, 2, 0, 0, 0, 0, 0, 0] 3 = [108, 228, 183, 69, 11, 211, 26, 2] := (pub_fast _ _).trans (by kernel_rfl)
theorem own2_4 : pubKey [118, 2, 0, 0, 0, 0, 0, 0] 4 = [161, 187, 49, 251, 204, 93, 139, 96] := (pub_fast _ _).trans (by kernel_rfl)
theorem own2_5 : pubKey [118, 2, 0, 0, 0, 0, 0, 0] 5 = [162, 151, 168, 67, 56, 158, 226, 141] := (pub_fast _ _).trans (by kernel_rfl)
theorem own2_6 : pubKey [118, 2, 0, 0, 0, 0, 0, 0] 6 = [29, 37, 104, 210, 18, 68, 217, 176] := (pub_fast _ _).trans (by kernel_rfl)
theorem own2_7 : pubKey [118, 2, 0, 0, 0, 0, 0, 0] 7 = [28, 163, 228, 229, 120, 240, 175, 77] := (pub_fast _ _).trans (by kernel_rfl)
theorem owner2 : treeOf [118, 2, 0, 0, 0, 0, 0, 0] = [215, 145, 207, 158, 171, 213, 178, 251] := (tree_fast own2_0 own2_1 own2_2 own2_3 own2_4 own2_5 own2_6 own2_7).trans (by kernel_rfl)
theorem own3_0 : pubKey [118, 3, 0, 0, 0, 0, 0, 0] 0 = [112, 83, 88, 231, 250, 220, 32, 50] := (pub_fast _ _).trans (by kernel_rfl)
theorem own3_1 : pubKey [118, 3, 0, 0, 0, 0, 0, 0] 1 = [185, 87, 74, 246, 186, 184, 165, 29] := (pub_fast _ _).trans (by kernel_rfl)
theorem own3_2 : pubKey [118, 3, 0, 0, 0, 0, 0, 0] 2 = [90, 100, 41, 77, 6, 238, 165, 26] := (pub_fast _ _).trans (by kernel_rfl)
theorem own3_3 : pubKey [118, 3, 0, 0, 0, 0, 0, 0] 3 = [123, 192, 251, 25, 13, 29, 254, 190] := (pub_fast _ _).trans (by kernel_rfl)
theorem own3_4 : pubKey [118, 3, 0, 0, 0, 0, 0, 0] 4 = [226, 34, 16, 176, 209, 25, 210, 197] := (pub_fast _ _).trans (by kernel_rfl)
theorem own3_5 : pubKey [118, 3, 0, 0, 0, 0, 0, 0] 5 = [238, 229, 250, 133, 75, 76, 255, 194] := (pub_fast _ _).trans (by kernel_rfl)
theorem own3_6 : pubKey [118, 3, 0, 0, 0, 0, 0, 0] 6 = [222, 115, 244, 36, 226, 25, 85, 9] := (pub_fast _ _).trans (by kernel_rfl)
theorem own3_7 : pubKey [118, 3, 0, 0, 0, 0, 0, 0] 7 = [125, 84, 141, 244, 137, 167, 97, 6] := (pub_fast _ _).trans (by kernel_rfl)
theorem owner3 : treeOf [118, 3, 0, 0, 0, 0, 0, 0] = [25, 165, 224, 105, 120, 155, 126, 120] := (tree_fast own3_0 own3_1 own3_2 own3_3 own3_4 own3_5 own3_6 own3_7).trans (by kernel_rfl)
end Go.Sha
