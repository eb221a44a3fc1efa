/- bits.RotateLeft32, hash.right, the reference's turned: a word turned to the right; the kinds of reckoning on words of 32 bits. -/
import Derived.Test.YtilfbomjaflbjaaDoorVcE
import Derived.Test.YtilfbomjaflbjaaDoorTab
import Derived.Test.YtilfbomjaflbjaaDoorSha0
namespace Go.Proofs.YtilfbomjaflbjaaDoor
open Go Go.Vc Go.Sha

theorem wrap_u32 (z : Int) : IntKind.wrap .u32 z = z % 4294967296 := rfl
theorem wrap_u8 (z : Int) : IntKind.wrap .u8 z = z % 256 := rfl
theorem wrap_u64 (z : Int) : IntKind.wrap .u64 z = z % 18446744073709551616 := rfl
theorem ofInt32 (a : Nat) (h : a < 4294967296) : (BitVec.ofInt 32 (a : Int)).toNat = a := by
  rw [BitVec.toNat_ofInt]; omega
theorem u32_or (a b : Nat) (ha : a < 4294967296) (hb : b < 4294967296) : IntKind.wrap .u32 (BitVec.ofInt IntKind.u32.bits (a : Int) ||| BitVec.ofInt IntKind.u32.bits (b : Int)).toNat = ((a ||| b : Nat) : Int) := by
  have e : (BitVec.ofInt 32 (a : Int) ||| BitVec.ofInt 32 (b : Int)).toNat = a ||| b := by rw [BitVec.toNat_or, ofInt32 a ha, ofInt32 b hb]
  show IntKind.wrap .u32 ((BitVec.ofInt 32 (a : Int) ||| BitVec.ofInt 32 (b : Int)).toNat : Int) = _
  rw [e]
  have h : a ||| b < 4294967296 := Nat.or_lt_two_pow (n := 32) ha hb
  exact wrap_in (by simp only [inK]; omega)
theorem u32_xor (a b : Nat) (ha : a < 4294967296) (hb : b < 4294967296) : IntKind.wrap .u32 (BitVec.ofInt IntKind.u32.bits (a : Int) ^^^ BitVec.ofInt IntKind.u32.bits (b : Int)).toNat = ((a ^^^ b : Nat) : Int) := by
  have e : (BitVec.ofInt 32 (a : Int) ^^^ BitVec.ofInt 32 (b : Int)).toNat = a ^^^ b := by rw [BitVec.toNat_xor, ofInt32 a ha, ofInt32 b hb]
  show IntKind.wrap .u32 ((BitVec.ofInt 32 (a : Int) ^^^ BitVec.ofInt 32 (b : Int)).toNat : Int) = _
  rw [e]
  have h : a ^^^ b < 4294967296 := Nat.xor_lt_two_pow (n := 32) ha hb
  exact wrap_in (by simp only [inK]; omega)
theorem u32_and (a b : Nat) (ha : a < 4294967296) (hb : b < 4294967296) : IntKind.wrap .u32 (BitVec.ofInt IntKind.u32.bits (a : Int) &&& BitVec.ofInt IntKind.u32.bits (b : Int)).toNat = ((a &&& b : Nat) : Int) := by
  have e : (BitVec.ofInt 32 (a : Int) &&& BitVec.ofInt 32 (b : Int)).toNat = a &&& b := by rw [BitVec.toNat_and, ofInt32 a ha, ofInt32 b hb]
  show IntKind.wrap .u32 ((BitVec.ofInt 32 (a : Int) &&& BitVec.ofInt 32 (b : Int)).toNat : Int) = _
  rw [e]
  have h : a &&& b < 4294967296 := Nat.lt_of_le_of_lt Nat.and_le_left ha
  exact wrap_in (by simp only [inK]; omega)
theorem u32_not (a : Nat) (ha : a < 4294967296) : IntKind.wrap .u32 (BitVec.ofInt IntKind.u32.bits (if IntKind.u32.signed = true then -1 else IntKind.u32.max) ^^^ BitVec.ofInt IntKind.u32.bits (a : Int)).toNat = ((4294967295 ^^^ a : Nat) : Int) :=
  u32_xor 4294967295 a (by decide) ha
theorem u32_add (a b : Nat) : IntKind.wrap .u32 ((a : Int) + (b : Int)) = (((a + b) % 4294967296 : Nat) : Int) := by rw [wrap_u32]; omega
theorem u32_wr (a : Nat) : IntKind.wrap .u32 (a : Int) = ((a % 4294967296 : Nat) : Int) := by rw [wrap_u32]; omega

theorem and31 : ∀ n : Fin 32, 0 < n.val → IntKind.wrap .u64 (BitVec.ofInt IntKind.u64.bits (IntKind.wrap .u64 (-(n.val : Int))) &&& BitVec.ofInt IntKind.u64.bits 31).toNat = ((32 - n.val : Nat) : Int) := by decide +kernel

theorem sub32 (n : Nat) (h : n < 32) : IntKind.wrap .u64 (32 - ((32 - n : Nat) : Int)) = (n : Int) := by rw [wrap_u64]; omega

theorem RotateLeft32_calls (x n : Nat) (hx : x < 4294967296) (h0 : 0 < n) (h1 : n < 32) (w : World) :
    Gives Tryd.prog 78 [.int .u32 x, .int .i64 (-(n : Int))] (.int .u32 (rotr n x)) w := by
  refine enter Tryd.func78 rfl (Mem.nil w []) rfl ?_
  (repeat refine RC.seq ?_); refine RC.region ?_
  repeat (refine Run.v rfl rfl rfl (Val.of rfl) ?_)
  refine Run.nil (RQ.next ?_)
  (repeat refine RC.seq ?_); refine RC.region ?_
  refine Run.v rfl rfl rfl (Val.of rfl) ?_
  refine Run.v rfl rfl rfl (Val.conv tabOk rfl rfl rfl rfl rfl rfl) ?_
  refine Run.v rfl rfl rfl (Val.eq (Val.of rfl) (congrArg (Value.int .u64) (and31 ⟨n, h1⟩ h0))) ?_
  refine Run.v rfl rfl rfl (Val.of rfl) ?_
  refine Run.nil (RQ.next ?_)
  (repeat refine RC.seq ?_); refine RC.region ?_
  refine Run.v rfl rfl rfl (Val.of rfl) ?_
  refine Run.v rfl rfl rfl (Val.of rfl) ?_
  refine Run.v rfl rfl rfl (Val.eq (Val.shl rfl rfl rfl (by show _ ≤ 32; omega)) (congrArg (Value.int .u32) (u32_wr _))) ?_
  refine Run.v rfl rfl rfl (Val.of rfl) ?_
  refine Run.v rfl rfl rfl (Val.of rfl) ?_
  refine Run.v rfl rfl rfl (Val.eq (Val.of rfl) (congrArg (Value.int .u64) (sub32 n h1))) ?_
  refine Run.v rfl rfl rfl (Val.shr rfl rfl rfl (by show _ ≤ 32; omega)) ?_
  refine Run.v rfl rfl rfl (Val.eq (Val.of rfl) (congrArg (Value.int .u32) (u32_or _ _ (Nat.mod_lt _ (by decide)) (Nat.lt_of_le_of_lt (Nat.div_le_self _ _) hx)))) ?_
  refine Run.v rfl rfl rfl (Val.of rfl) ?_
  refine Run.nil (RQ.next ?_)
  exact RC.ret (RQ.ret1 rfl (Res.tmp rfl) fun w' hm => ⟨rfl, hm.fr⟩)

/-- hash.right. -/
theorem right_calls (x n : Nat) (hx : x < 4294967296) (h0 : 0 < n) (h1 : n < 32) (w : World) :
    Gives Tryd.prog 77 [.int .u32 x, .int .i64 n] (.int .u32 (rotr n x)) w := by
  refine enter Tryd.func77 rfl (Mem.nil w []) rfl ?_
  (repeat refine RC.seq ?_); refine RC.region ?_
  repeat (refine Run.v rfl rfl rfl (Val.of rfl) ?_)
  refine Run.nil (RQ.next ?_)
  (repeat refine RC.seq ?_); refine RC.region ?_
  refine Run.v rfl rfl rfl (Val.of rfl) ?_
  refine Run.v rfl rfl rfl (Val.of rfl) ?_
  refine Run.v rfl rfl rfl (Val.eq (Val.of rfl) (congrArg (Value.int .i64) (show IntKind.wrap .i64 (0 - (n : Int)) = -(n : Int) from by rw [wrap_in (by simp only [inK]; omega)]; omega))) ?_
  refine Run.callV Tryd.func78 rfl rfl rfl rfl rfl rfl rfl (fun w _ => RotateLeft32_calls x n hx h0 h1 w) ?_
  refine Run.v rfl rfl rfl (Val.of rfl) ?_
  refine Run.nil (RQ.next ?_)
  exact RC.ret (RQ.ret1 rfl (Res.tmp rfl) fun w' hm => ⟨rfl, hm.fr⟩)
end Go.Proofs.YtilfbomjaflbjaaDoor
