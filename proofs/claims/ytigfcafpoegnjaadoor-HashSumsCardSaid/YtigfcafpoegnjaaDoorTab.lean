/- The table of the types that the program's functions name, and that it is the program's. Printed by a program of this work (wip/Types.lean). -/
import Derived.Test.YtigfcafpoegnjaaDoorVcC
import Derived.Test.YtigfcafpoegnjaaDoorProg
import Derived.KernelRfl
namespace Go.Proofs.YtigfcafpoegnjaaDoor
open Go Go.Vc

def ti2 : TI := ⟨.int .i64, 1, 8, .int .i64 0⟩ -- int64
theorem ty2 : Ty Tryd.prog 2 ti2 := Ty.mk' (by kernel_rfl) (by kernel_rfl)
def ti3 : TI := ⟨.int .i64, 1, 8, .int .i64 0⟩ -- int
theorem ty3 : Ty Tryd.prog 3 ti3 := Ty.mk' (by kernel_rfl) (by kernel_rfl)
def ti4 : TI := ⟨.bool, 1, 1, .bool false⟩ -- bool
theorem ty4 : Ty Tryd.prog 4 ti4 := Ty.mk' (by kernel_rfl) (by kernel_rfl)
def ti5 : TI := ⟨.int .u8, 1, 1, .int .u8 0⟩ -- uint8
theorem ty5 : Ty Tryd.prog 5 ti5 := Ty.mk' (by kernel_rfl) (by kernel_rfl)
def ti9 : TI := ⟨.string, 1, 16, .string .empty⟩ -- string
theorem ty9 : Ty Tryd.prog 9 ti9 := Ty.mk' (by kernel_rfl) (by kernel_rfl)
def ti12 : TI := ⟨.int .u64, 1, 8, .int .u64 0⟩ -- uintptr
theorem ty12 : Ty Tryd.prog 12 ti12 := Ty.mk' (by kernel_rfl) (by kernel_rfl)
def ti13 : TI := ⟨.struct #[⟨"msg", 9, 0, false, "", "runtime", 0⟩, ⟨"addr", 12, 1, false, "", "runtime", 16⟩], 2, 24, .agg #[.string .empty, .int .u64 0]⟩ -- struct { msg string; addr uintptr }
theorem ty13 : Ty Tryd.prog 13 ti13 := Ty.mk' (by kernel_rfl) (by kernel_rfl)
def ti21 : TI := ⟨.int .i32, 1, 4, .int .i32 0⟩ -- int32
theorem ty21 : Ty Tryd.prog 21 ti21 := Ty.mk' (by kernel_rfl) (by kernel_rfl)
def ti22 : TI := ⟨.array 8 5, 8, 8, .agg #[.int .u8 0, .int .u8 0, .int .u8 0, .int .u8 0, .int .u8 0, .int .u8 0, .int .u8 0, .int .u8 0]⟩ -- [8]uint8
theorem ty22 : Ty Tryd.prog 22 ti22 := Ty.mk' (by kernel_rfl) (by kernel_rfl)
def ti23 : TI := ⟨.array 8 5, 8, 8, .agg #[.int .u8 0, .int .u8 0, .int .u8 0, .int .u8 0, .int .u8 0, .int .u8 0, .int .u8 0, .int .u8 0]⟩ -- api.Hash
theorem ty23 : Ty Tryd.prog 23 ti23 := Ty.mk' (by kernel_rfl) (by kernel_rfl)
def ti24 : TI := ⟨.array 3 23, 24, 24, .agg (List.replicate 24 (.int .u8 0)).toArray⟩ -- [3]api.Hash
theorem ty24 : Ty Tryd.prog 24 ti24 := Ty.mk' (by kernel_rfl) (by kernel_rfl)
def ti28 : TI := ⟨.slice 5, 1, 24, .slice none 0 0⟩ -- []uint8
theorem ty28 : Ty Tryd.prog 28 ti28 := Ty.mk' (by kernel_rfl) (by kernel_rfl)
def ti30 : TI := ⟨.array 32 5, 32, 32, .agg (List.replicate 32 (.int .u8 0)).toArray⟩ -- [32]uint8
theorem ty30 : Ty Tryd.prog 30 ti30 := Ty.mk' (by kernel_rfl) (by kernel_rfl)
def ti34 : TI := ⟨.slice 28, 1, 24, .slice none 0 0⟩ -- [][]uint8
theorem ty34 : Ty Tryd.prog 34 ti34 := Ty.mk' (by kernel_rfl) (by kernel_rfl)
def ti35 : TI := ⟨.array 2 23, 16, 16, .agg (List.replicate 16 (.int .u8 0)).toArray⟩ -- [2]api.Hash
theorem ty35 : Ty Tryd.prog 35 ti35 := Ty.mk' (by kernel_rfl) (by kernel_rfl)
def ti44 : TI := ⟨.int .u64, 1, 8, .int .u64 0⟩ -- uint
theorem ty44 : Ty Tryd.prog 44 ti44 := Ty.mk' (by kernel_rfl) (by kernel_rfl)
def ti46 : TI := ⟨.int .u64, 1, 8, .int .u64 0⟩ -- uint64
theorem ty46 : Ty Tryd.prog 46 ti46 := Ty.mk' (by kernel_rfl) (by kernel_rfl)
def ti47 : TI := ⟨.int .u32, 1, 4, .int .u32 0⟩ -- uint32
theorem ty47 : Ty Tryd.prog 47 ti47 := Ty.mk' (by kernel_rfl) (by kernel_rfl)
def ti48 : TI := ⟨.array 8 47, 8, 32, .agg #[.int .u32 0, .int .u32 0, .int .u32 0, .int .u32 0, .int .u32 0, .int .u32 0, .int .u32 0, .int .u32 0]⟩ -- [8]uint32
theorem ty48 : Ty Tryd.prog 48 ti48 := Ty.mk' (by kernel_rfl) (by kernel_rfl)
def ti49 : TI := ⟨.array 8 47, 8, 32, .agg #[.int .u32 0, .int .u32 0, .int .u32 0, .int .u32 0, .int .u32 0, .int .u32 0, .int .u32 0, .int .u32 0]⟩ -- hash.words
theorem ty49 : Ty Tryd.prog 49 ti49 := Ty.mk' (by kernel_rfl) (by kernel_rfl)
def ti52 : TI := ⟨.array 64 47, 64, 256, .agg (List.replicate 64 (.int .u32 0)).toArray⟩ -- [64]uint32
theorem ty52 : Ty Tryd.prog 52 ti52 := Ty.mk' (by kernel_rfl) (by kernel_rfl)
def ti57 : TI := ⟨.pointer 49, 1, 8, .pointer none⟩ -- *hash.words
theorem ty57 : Ty Tryd.prog 57 ti57 := Ty.mk' (by kernel_rfl) (by kernel_rfl)
def ti60 : TI := ⟨.slice 47, 1, 24, .slice none 0 0⟩ -- []uint32
theorem ty60 : Ty Tryd.prog 60 ti60 := Ty.mk' (by kernel_rfl) (by kernel_rfl)
def ti71 : TI := ⟨.pointer 5, 1, 8, .pointer none⟩ -- *uint8
theorem ty71 : Ty Tryd.prog 71 ti71 := Ty.mk' (by kernel_rfl) (by kernel_rfl)
def tab : List (Nat × TI) := [(2, ti2), (3, ti3), (4, ti4), (5, ti5), (9, ti9), (12, ti12), (13, ti13), (21, ti21), (22, ti22), (23, ti23), (24, ti24), (28, ti28), (30, ti30), (34, ti34), (35, ti35), (44, ti44), (46, ti46), (47, ti47), (48, ti48), (49, ti49), (52, ti52), (57, ti57), (60, ti60), (71, ti71)]
theorem tabOk : TabOk Tryd.prog tab := TabOk.cons ty2 <| TabOk.cons ty3 <| TabOk.cons ty4 <| TabOk.cons ty5 <| TabOk.cons ty9 <| TabOk.cons ty12 <| TabOk.cons ty13 <| TabOk.cons ty21 <| TabOk.cons ty22 <| TabOk.cons ty23 <| TabOk.cons ty24 <| TabOk.cons ty28 <| TabOk.cons ty30 <| TabOk.cons ty34 <| TabOk.cons ty35 <| TabOk.cons ty44 <| TabOk.cons ty46 <| TabOk.cons ty47 <| TabOk.cons ty48 <| TabOk.cons ty49 <| TabOk.cons ty52 <| TabOk.cons ty57 <| TabOk.cons ty60 <| TabOk.cons ty71 <| TabOk.nil
theorem mixed : Tryd.prog.follows .mixedOrders = true := by kernel_rfl
end Go.Proofs.YtigfcafpoegnjaaDoor
