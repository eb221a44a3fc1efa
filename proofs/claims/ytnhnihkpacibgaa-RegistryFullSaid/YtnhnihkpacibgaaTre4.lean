import Derived.Test.YtnhnihkpacibgaaFst1
/- The tree of the seed 113 0. -/
namespace Go.Sha
theorem key0_0 : pubKey [113, 0, 0, 0, 0, 0, 0, 0] 0 = [255, 106, 171, 30, 0, 1, 99, 59] := (pub_fast _ _).trans (by kernel_rfl)
theorem key0_1 : pubKey [113, 0, 0, 0, 0, 0, 0, 0] 1 = [106, 245, 50, 117, 138, 20, 162, 202] := (pub_fast _ _).trans (by kernel_rfl)
theorem key0_2 : pubKey [113, 0, 0, 0, 0, 0, 0, 0] 2 = [234, 21, 117, 53, 147, 136, 25, 49] := (pub_fast _ _).trans (by kernel_rfl)
theorem key0_3 : pubKey [113, 0, 0, 0, 0, 0, 0, 0] 3 = [122, 192, 39, 3, 116, 185, 173, 155] := (pub_fast _ _).trans (by kernel_rfl)
theorem key0_4 : pubKey [113, 0, 0, 0, 0, 0, 0, 0] 4 = [163, 196, 91, 208, 17, 10, 174, 107] := (pub_fast _ _).trans (by kernel_rfl)
theorem key0_5 : pubKey [113, 0, 0, 0, 0, 0, 0, 0] 5 = [39, 62, 226, 115, 218, 223, 114, 112] := (pub_fast _ _).trans (by kernel_rfl)
theorem key0_6 : pubKey [113, 0, 0, 0, 0, 0, 0, 0] 6 = [198, 101, 244, 187, 35, 6, 155, 28] := (pub_fast _ _).trans (by kernel_rfl)
theorem key0_7 : pubKey [113, 0, 0, 0, 0, 0, 0, 0] 7 = [83, 125, 202, 234, 100, 14, 204, 230] := (pub_fast _ _).trans (by kernel_rfl)
theorem tree0 : treeOf [113, 0, 0, 0, 0, 0, 0, 0] = [42, 27, 56, 72, 149, 84, 97, 106] := (tree_fast key0_0 key0_1 key0_2 key0_3 key0_4 key0_5 key0_6 key0_7).trans (by kernel_rfl)
end Go.Sha

/- The tree of the seed 113 1. -/
namespace Go.Sha
theorem key1_0 : pubKey [113, 1, 0, 0, 0, 0, 0, 0] 0 = [24, 103, 56, 166, 213, 68, 131, 201] := (pub_fast _ _).trans (by kernel_rfl)
theorem key1_1 : pubKey [113, 1, 0, 0, 0, 0, 0, 0] 1 = [162, 216, 153, 28, 237, 215, 27, 138] := (pub_fast _ _).trans (by kernel_rfl)
theorem key1_2 : pubKey [113, 1, 0, 0, 0, 0, 0, 0] 2 = [130, 180, 169, 244, 28, 86, 199, 75] := (pub_fast _ _).trans (by kernel_rfl)
theorem key1_3 : pubKey [113, 1, 0, 0, 0, 0, 0, 0] 3 = [241, 30, 197, 19, 210, 185, 195, 3] := (pub_fast _ _).trans (by kernel_rfl)
theorem key1_4 : pubKey [113, 1, 0, 0, 0, 0, 0, 0] 4 = [244, 17, 179, 74, 1, 202, 203, 54] := (pub_fast _ _).trans (by kernel_rfl)
theorem key1_5 : pubKey [113, 1, 0, 0, 0, 0, 0, 0] 5 = [106, 101, 98, 80, 42, 75, 89, 22] := (pub_fast _ _).trans (by kernel_rfl)
theorem key1_6 : pubKey [113, 1, 0, 0, 0, 0, 0, 0] 6 = [177, 218, 208, 155, 150, 1, 121, 172] := (pub_fast _ _).trans (by kernel_rfl)
theorem key1_7 : pubKey [113, 1, 0, 0, 0, 0, 0, 0] 7 = [208, 246, 89, 60, 132, 47, 8, 163] := (pub_fast _ _).trans (by kernel_rfl)
theorem tree1 : treeOf [113, 1, 0, 0, 0, 0, 0, 0] = [198, 66, 121, 243, 225, 231, 225, 136] := (tree_fast key1_0 key1_1 key1_2 key1_3 key1_4 key1_5 key1_6 key1_7).trans (by kernel_rfl)
end Go.Sha

/- The tree of the seed 113 2. -/
namespace Go.Sha
theorem key2_0 : pubKey [113, 2, 0, 0, 0, 0, 0, 0] 0 = [33, 255, 187, 84, 137, 93, 191, 196] := (pub_fast _ _).trans (by kernel_rfl)
theorem key2_1 : pubKey [113, 2, 0, 0, 0, 0, 0, 0] 1 = [14, 162, 189, 31, 23, 195, 101, 25] := (pub_fast _ _).trans (by kernel_rfl)
theorem key2_2 : pubKey [113, 2, 0, 0, 0, 0, 0, 0] 2 = [166, 93, 144, 216, 28, 32, 191, 0] := (pub_fast _ _).trans (by kernel_rfl)
theorem key2_3 : pubKey [113, 2, 0, 0, 0, 0, 0, 0] 3 = [171, 99, 17, 185, 16, 73, 246, 151] := (pub_fast _ _).trans (by kernel_rfl)
theorem key2_4 : pubKey [113, 2, 0, 0, 0, 0, 0, 0] 4 = [251, 167, 119, 251, 87, 129, 253, 47] := (pub_fast _ _).trans (by kernel_rfl)
theorem key2_5 : pubKey [113, 2, 0, 0, 0, 0, 0, 0] 5 = [58, 35, 103, 254, 209, 157, 229, 217] := (pub_fast _ _).trans (by kernel_rfl)
theorem key2_6 : pubKey [113, 2, 0, 0, 0, 0, 0, 0] 6 = [110, 242, 228, 153, 203, 74, 94, 94] := (pub_fast _ _).trans (by kernel_rfl)
theorem key2_7 : pubKey [113, 2, 0, 0, 0, 0, 0, 0] 7 = [177, 148, 97, 173, 185, 47, 203, 92] := (pub_fast _ _).trans (by kernel_rfl)
theorem tree2 : treeOf [113, 2, 0, 0, 0, 0, 0, 0] = [103, 242, 72, 14, 141, 212, 250, 235] := (tree_fast key2_0 key2_1 key2_2 key2_3 key2_4 key2_5 key2_6 key2_7).trans (by kernel_rfl)
end Go.Sha

/- The tree of the seed 113 3. -/
namespace Go.Sha
theorem key3_0 : pubKey [113, 3, 0, 0, 0, 0, 0, 0] 0 = [182, 48, 41, 251, 133, 212, 111, 146] := (pub_fast _ _).trans (by kernel_rfl)
theorem key3_1 : pubKey [113, 3, 0, 0, 0, 0, 0, 0] 1 = [28, 215, 189, 152, 184, 170, 93, 23] := (pub_fast _ _).trans (by kernel_rfl)
theorem key3_2 : pubKey [113, 3, 0, 0, 0, 0, 0, 0] 2 = [222, 93, 104, 164, 237, 40, 177, 39] := (pub_fast _ _).trans (by kernel_rfl)
theorem key3_3 : pubKey [113, 3, 0, 0, 0, 0, 0, 0] 3 = [114, 174, 237, 126, 127, 154, 95, 13] := (pub_fast _ _).trans (by kernel_rfl)
theorem key3_4 : pubKey [113, 3, 0, 0, 0, 0, 0, 0] 4 = [250, 33, 139, 169, 149, 112, 36, 11] := (pub_fast _ _).trans (by kernel_rfl)
theorem key3_5 : pubKey [113, 3, 0, 0, 0, 0, 0, 0] 5 = [222, 186, 198, 248, 81, 63, 99, 241] := (pub_fast _ _).trans (by kernel_rfl)
theorem key3_6 : pubKey [113, 3, 0, 0, 0, 0, 0, 0] 6 = [250, 68, 62, 251, 63, 177, 251, 6] := (pub_fast _ _).trans (by kernel_rfl)
theorem key3_7 : pubKey [113, 3, 0, 0, 0, 0, 0, 0] 7 = [132, 78, 115, 60, 112, 212, 148, 101] := (pub_fast _ _).trans (by kernel_rfl)
theorem tree3 : treeOf [113, 3, 0, 0, 0, 0, 0, 0] = [136, 180, 213, 230, 174, 33, 93, 175] := (tree_fast key3_0 key3_1 key3_2 key3_3 key3_4 key3_5 key3_6 key3_7).trans (by kernel_rfl)
end Go.Sha

/- The tree of the seed 113 4. -/
namespace Go.Sha
theorem key4_0 : pubKey [113, 4, 0, 0, 0, 0, 0, 0] 0 = [26, 13, 74, 223, 213, 17, 205, 178] := (pub_fast _ _).trans (by kernel_rfl)
theorem key4_1 : pubKey [113, 4, 0, 0, 0, 0, 0, 0] 1 = [206, 77, 153, 109, 184, 7, 236, 61] := (pub_fast _ _).trans (by kernel_rfl)
theorem key4_2 : pubKey [113, 4, 0, 0, 0, 0, 0, 0] 2 = [102, 118, 219, 136, 58, 68, 221, 111] := (pub_fast _ _).trans (by kernel_rfl)
theorem key4_3 : pubKey [113, 4, 0, 0, 0, 0, 0, 0] 3 = [125, 23, 41, 204, 118, 3, 84, 245] := (pub_fast _ _).trans (by kernel_rfl)
theorem key4_4 : pubKey [113, 4, 0, 0, 0, 0, 0, 0] 4 = [52, 51, 253, 160, 16, 137, 106, 151] := (pub_fast _ _).trans (by kernel_rfl)
theorem key4_5 : pubKey [113, 4, 0, 0, 0, 0, 0, 0] 5 = [186, 227, 98, 81, 84, 139, 190, 34] := (pub_fast _ _).trans (by kernel_rfl)
theorem key4_6 : pubKey [113, 4, 0, 0, 0, 0, 0, 0] 6 = [47, 234, 64, 164, 171, 138, 247, 138] := (pub_fast _ _).trans (by kernel_rfl)
theorem key4_7 : pubKey [113, 4, 0, 0, 0, 0, 0, 0] 7 = [225, 14, 240, 141, 128, 213, 197, 13] := (pub_fast _ _).trans (by kernel_rfl)
theorem tree4 : treeOf [113, 4, 0, 0, 0, 0, 0, 0] = [170, 223, 126, 121, 129, 128, 94, 198] := (tree_fast key4_0 key4_1 key4_2 key4_3 key4_4 key4_5 key4_6 key4_7).trans (by kernel_rfl)
end Go.Sha
