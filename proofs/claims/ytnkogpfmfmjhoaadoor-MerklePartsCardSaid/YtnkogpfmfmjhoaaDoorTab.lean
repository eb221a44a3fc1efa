/- The table of the types that the program's functions name, and that it is the program's. Printed by a program of this work (wip/Types.lean). -/
import Derived.Test.YtnkogpfmfmjhoaaDoorVcC
import Derived.Test.YtnkogpfmfmjhoaaDoorProg
import Derived.KernelRfl
namespace Go.Proofs.YtnkogpfmfmjhoaaDoor
open Go Go.Vc

def ti2 : TI := ⟨.int .i64, 1, 8, .int .i64 0⟩ -- int64
theorem ty2 : Ty Tryd.prog 2 ti2 := Ty.mk' (by kernel_rfl) (by kernel_rfl)
def ti3 : TI := ⟨.int .i64, 1, 8, .int .i64 0⟩ -- int
theorem ty3 : Ty Tryd.prog 3 ti3 := Ty.mk' (by kernel_rfl) (by kernel_rfl)
def ti4 : TI := ⟨.bool, 1, 1, .bool false⟩ -- bool
theorem ty4 : Ty Tryd.prog 4 ti4 := Ty.mk' (by kernel_rfl) (by kernel_rfl)
def ti5 : TI := ⟨.int .u8, 1, 1, .int .u8 0⟩ -- uint8
theorem ty5 : Ty Tryd.prog 5 ti5 := Ty.mk' (by kernel_rfl) (by kernel_rfl)
def ti9 : TI := ⟨.string, 1, 16, .string .empty⟩ -- string
theorem ty9 : Ty Tryd.prog 9 ti9 := Ty.mk' (by kernel_rfl) (by kernel_rfl)
def ti12 : TI := ⟨.int .u64, 1, 8, .int .u64 0⟩ -- uintptr
theorem ty12 : Ty Tryd.prog 12 ti12 := Ty.mk' (by kernel_rfl) (by kernel_rfl)
def ti13 : TI := ⟨.struct #[⟨"msg", 9, 0, false, "", "runtime", 0⟩, ⟨"addr", 12, 1, false, "", "runtime", 16⟩], 2, 24, .agg #[.string .empty, .int .u64 0]⟩ -- struct { msg string; addr uintptr }
theorem ty13 : Ty Tryd.prog 13 ti13 := Ty.mk' (by kernel_rfl) (by kernel_rfl)
def ti21 : TI := ⟨.int .i32, 1, 4, .int .i32 0⟩ -- int32
theorem ty21 : Ty Tryd.prog 21 ti21 := Ty.mk' (by kernel_rfl) (by kernel_rfl)
def ti22 : TI := ⟨.array 8 5, 8, 8, .agg #[.int .u8 0, .int .u8 0, .int .u8 0, .int .u8 0, .int .u8 0, .int .u8 0, .int .u8 0, .int .u8 0]⟩ -- [8]uint8
theorem ty22 : Ty Tryd.prog 22 ti22 := Ty.mk' (by kernel_rfl) (by kernel_rfl)
def ti23 : TI := ⟨.array 8 5, 8, 8, .agg #[.int .u8 0, .int .u8 0, .int .u8 0, .int .u8 0, .int .u8 0, .int .u8 0, .int .u8 0, .int .u8 0]⟩ -- api.Hash
theorem ty23 : Ty Tryd.prog 23 ti23 := Ty.mk' (by kernel_rfl) (by kernel_rfl)
def ti25 : TI := ⟨.pointer 59, 1, 8, .pointer none⟩ -- *lamport.Key
theorem ty25 : Ty Tryd.prog 25 ti25 := Ty.mk' (by kernel_rfl) (by kernel_rfl)
def ti27 : TI := ⟨.array 16 23, 128, 128, .agg (List.replicate 128 (.int .u8 0)).toArray⟩ -- [16]api.Hash
theorem ty27 : Ty Tryd.prog 27 ti27 := Ty.mk' (by kernel_rfl) (by kernel_rfl)
def ti35 : TI := ⟨.int .u64, 1, 8, .int .u64 0⟩ -- uint
theorem ty35 : Ty Tryd.prog 35 ti35 := Ty.mk' (by kernel_rfl) (by kernel_rfl)
def ti38 : TI := ⟨.slice 5, 1, 24, .slice none 0 0⟩ -- []uint8
theorem ty38 : Ty Tryd.prog 38 ti38 := Ty.mk' (by kernel_rfl) (by kernel_rfl)
def ti41 : TI := ⟨.array 4 5, 4, 4, .agg #[.int .u8 0, .int .u8 0, .int .u8 0, .int .u8 0]⟩ -- [4]uint8
theorem ty41 : Ty Tryd.prog 41 ti41 := Ty.mk' (by kernel_rfl) (by kernel_rfl)
def ti42 : TI := ⟨.int .u16, 1, 2, .int .u16 0⟩ -- uint16
theorem ty42 : Ty Tryd.prog 42 ti42 := Ty.mk' (by kernel_rfl) (by kernel_rfl)
def ti44 : TI := ⟨.slice 23, 1, 24, .slice none 0 0⟩ -- []api.Hash
theorem ty44 : Ty Tryd.prog 44 ti44 := Ty.mk' (by kernel_rfl) (by kernel_rfl)
def ti49 : TI := ⟨.array 3 3, 3, 24, .agg #[.int .i64 0, .int .i64 0, .int .i64 0]⟩ -- [3]int
theorem ty49 : Ty Tryd.prog 49 ti49 := Ty.mk' (by kernel_rfl) (by kernel_rfl)
def ti52 : TI := ⟨.array 2 23, 16, 16, .agg (List.replicate 16 (.int .u8 0)).toArray⟩ -- [2]api.Hash
theorem ty52 : Ty Tryd.prog 52 ti52 := Ty.mk' (by kernel_rfl) (by kernel_rfl)
def ti53 : TI := ⟨.array 2 3, 2, 16, .agg #[.int .i64 0, .int .i64 0]⟩ -- [2]int
theorem ty53 : Ty Tryd.prog 53 ti53 := Ty.mk' (by kernel_rfl) (by kernel_rfl)
def ti57 : TI := ⟨.array 16 52, 256, 256, .agg (List.replicate 256 (.int .u8 0)).toArray⟩ -- [16][2]api.Hash
theorem ty57 : Ty Tryd.prog 57 ti57 := Ty.mk' (by kernel_rfl) (by kernel_rfl)
def ti58 : TI := ⟨.struct #[⟨"secrets", 57, 0, false, "", "drawbridge/lamport", 0⟩], 256, 256, .agg (List.replicate 256 (.int .u8 0)).toArray⟩ -- struct { secrets [16][2]api.Hash }
theorem ty58 : Ty Tryd.prog 58 ti58 := Ty.mk' (by kernel_rfl) (by kernel_rfl)
def ti59 : TI := ⟨.struct #[⟨"secrets", 57, 0, false, "", "drawbridge/lamport", 0⟩], 256, 256, .agg (List.replicate 256 (.int .u8 0)).toArray⟩ -- lamport.Key
theorem ty59 : Ty Tryd.prog 59 ti59 := Ty.mk' (by kernel_rfl) (by kernel_rfl)
def ti63 : TI := ⟨.slice 38, 1, 24, .slice none 0 0⟩ -- [][]uint8
theorem ty63 : Ty Tryd.prog 63 ti63 := Ty.mk' (by kernel_rfl) (by kernel_rfl)
def ti65 : TI := ⟨.array 32 5, 32, 32, .agg (List.replicate 32 (.int .u8 0)).toArray⟩ -- [32]uint8
theorem ty65 : Ty Tryd.prog 65 ti65 := Ty.mk' (by kernel_rfl) (by kernel_rfl)
def ti69 : TI := ⟨.slice 4, 1, 24, .slice none 0 0⟩ -- []bool
theorem ty69 : Ty Tryd.prog 69 ti69 := Ty.mk' (by kernel_rfl) (by kernel_rfl)
def ti73 : TI := ⟨.int .u32, 1, 4, .int .u32 0⟩ -- uint32
theorem ty73 : Ty Tryd.prog 73 ti73 := Ty.mk' (by kernel_rfl) (by kernel_rfl)
def ti74 : TI := ⟨.array 8 73, 8, 32, .agg #[.int .u32 0, .int .u32 0, .int .u32 0, .int .u32 0, .int .u32 0, .int .u32 0, .int .u32 0, .int .u32 0]⟩ -- [8]uint32
theorem ty74 : Ty Tryd.prog 74 ti74 := Ty.mk' (by kernel_rfl) (by kernel_rfl)
def ti75 : TI := ⟨.array 64 73, 64, 256, .agg (List.replicate 64 (.int .u32 0)).toArray⟩ -- [64]uint32
theorem ty75 : Ty Tryd.prog 75 ti75 := Ty.mk' (by kernel_rfl) (by kernel_rfl)
def ti77 : TI := ⟨.int .u64, 1, 8, .int .u64 0⟩ -- uint64
theorem ty77 : Ty Tryd.prog 77 ti77 := Ty.mk' (by kernel_rfl) (by kernel_rfl)
def ti81 : TI := ⟨.array 8 73, 8, 32, .agg #[.int .u32 0, .int .u32 0, .int .u32 0, .int .u32 0, .int .u32 0, .int .u32 0, .int .u32 0, .int .u32 0]⟩ -- hash.words
theorem ty81 : Ty Tryd.prog 81 ti81 := Ty.mk' (by kernel_rfl) (by kernel_rfl)
def ti86 : TI := ⟨.pointer 81, 1, 8, .pointer none⟩ -- *hash.words
theorem ty86 : Ty Tryd.prog 86 ti86 := Ty.mk' (by kernel_rfl) (by kernel_rfl)
def ti89 : TI := ⟨.slice 73, 1, 24, .slice none 0 0⟩ -- []uint32
theorem ty89 : Ty Tryd.prog 89 ti89 := Ty.mk' (by kernel_rfl) (by kernel_rfl)
def ti100 : TI := ⟨.pointer 5, 1, 8, .pointer none⟩ -- *uint8
theorem ty100 : Ty Tryd.prog 100 ti100 := Ty.mk' (by kernel_rfl) (by kernel_rfl)
def tab : List (Nat × TI) := [(2, ti2), (3, ti3), (4, ti4), (5, ti5), (9, ti9), (12, ti12), (13, ti13), (21, ti21), (22, ti22), (23, ti23), (25, ti25), (27, ti27), (35, ti35), (38, ti38), (41, ti41), (42, ti42), (44, ti44), (49, ti49), (52, ti52), (53, ti53), (57, ti57), (58, ti58), (59, ti59), (63, ti63), (65, ti65), (69, ti69), (73, ti73), (74, ti74), (75, ti75), (77, ti77), (81, ti81), (86, ti86), (89, ti89), (100, ti100)]
theorem tabOk : TabOk Tryd.prog tab := TabOk.cons ty2 <| TabOk.cons ty3 <| TabOk.cons ty4 <| TabOk.cons ty5 <| TabOk.cons ty9 <| TabOk.cons ty12 <| TabOk.cons ty13 <| TabOk.cons ty21 <| TabOk.cons ty22 <| TabOk.cons ty23 <| TabOk.cons ty25 <| TabOk.cons ty27 <| TabOk.cons ty35 <| TabOk.cons ty38 <| TabOk.cons ty41 <| TabOk.cons ty42 <| TabOk.cons ty44 <| TabOk.cons ty49 <| TabOk.cons ty52 <| TabOk.cons ty53 <| TabOk.cons ty57 <| TabOk.cons ty58 <| TabOk.cons ty59 <| TabOk.cons ty63 <| TabOk.cons ty65 <| TabOk.cons ty69 <| TabOk.cons ty73 <| TabOk.cons ty74 <| TabOk.cons ty75 <| TabOk.cons ty77 <| TabOk.cons ty81 <| TabOk.cons ty86 <| TabOk.cons ty89 <| TabOk.cons ty100 <| TabOk.nil
theorem mixed : Tryd.prog.follows .mixedOrders = true := by kernel_rfl
end Go.Proofs.YtnkogpfmfmjhoaaDoor
