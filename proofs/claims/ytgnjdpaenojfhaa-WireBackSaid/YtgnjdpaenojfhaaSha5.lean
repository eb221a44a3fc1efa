import Derived.Test.YtgnjdpaenojfhaaVcG
import Derived.Test.YtgnjdpaenojfhaaTab
import Derived.Test.YtgnjdpaenojfhaaSha0
import Derived.Test.YtgnjdpaenojfhaaVcM
set_option linter.unusedSimpArgs false
set_option linter.unusedVariables false
/- bits.RotateLeft32, hash.right, the reference's turned: a word turned to the right; the kinds of reckoning on words of 32 bits. -/
namespace Go.Proofs.Ytgnjdpaenojfhaa
open Go Go.Vc Go.Sha

theorem wrap_u32 (z : Int) : IntKind.wrap .u32 z = z % 4294967296 := rfl
theorem wrap_u8 (z : Int) : IntKind.wrap .u8 z = z % 256 := rfl
theorem wrap_u64 (z : Int) : IntKind.wrap .u64 z = z % 18446744073709551616 := rfl
theorem ofInt32 (a : Nat) (h : a < 4294967296) : (BitVec.ofInt 32 (a : Int)).toNat = a := by
  rw [BitVec.toNat_ofInt]; omega
theorem u32_or (a b : Nat) (ha : a < 4294967296) (hb : b < 4294967296) : IntKind.wrap .u32 (BitVec.ofInt IntKind.u32.bits (a : Int) ||| BitVec.ofInt IntKind.u32.bits (b : Int)).toNat = ((a ||| b : Nat) : Int) := by
  have e : (BitVec.ofInt 32 (a : Int) ||| BitVec.ofInt 32 (b : Int)).toNat = a ||| b := by rw [BitVec.toNat_or, ofInt32 a ha, ofInt32 b hb]
  show IntKind.wrap .u32 ((BitVec.ofInt 32 (a : Int) ||| BitVec.ofInt 32 (b : Int)).toNat : Int) = _
  rw [e]
  have h : a ||| b < 4294967296 := Nat.or_lt_two_pow (n := 32) ha hb
  exact wrap_in (by simp only [inK]; omega)
theorem u32_xor (a b : Nat) (ha : a < 4294967296) (hb : b < 4294967296) : IntKind.wrap .u32 (BitVec.ofInt IntKind.u32.bits (a : Int) ^^^ BitVec.ofInt IntKind.u32.bits (b : Int)).toNat = ((a ^^^ b : Nat) : Int) := by
  have e : (BitVec.ofInt 32 (a : Int) ^^^ BitVec.ofInt 32 (b : Int)).toNat = a ^^^ b := by rw [BitVec.toNat_xor, ofInt32 a ha, ofInt32 b hb]
  show IntKind.wrap .u32 ((BitVec.ofInt 32 (a : Int) ^^^ BitVec.ofInt 32 (b : Int)).toNat : Int) = _
  rw [e]
  have h : a ^^^ b < 4294967296 := Nat.xor_lt_two_pow (n := 32) ha hb
  exact wrap_in (by simp only [inK]; omega)
theorem u32_and (a b : Nat) (ha : a < 4294967296) (hb : b < 4294967296) : IntKind.wrap .u32 (BitVec.ofInt IntKind.u32.bits (a : Int) &&& BitVec.ofInt IntKind.u32.bits (b : Int)).toNat = ((a &&& b : Nat) : Int) := by
  have e : (BitVec.ofInt 32 (a : Int) &&& BitVec.ofInt 32 (b : Int)).toNat = a &&& b := by rw [BitVec.toNat_and, ofInt32 a ha, ofInt32 b hb]
  show IntKind.wrap .u32 ((BitVec.ofInt 32 (a : Int) &&& BitVec.ofInt 32 (b : Int)).toNat : Int) = _
  rw [e]
  have h : a &&& b < 4294967296 := Nat.lt_of_le_of_lt Nat.and_le_left ha
  exact wrap_in (by simp only [inK]; omega)
theorem u32_not (a : Nat) (ha : a < 4294967296) : IntKind.wrap .u32 (BitVec.ofInt IntKind.u32.bits (if IntKind.u32.signed = true then -1 else IntKind.u32.max) ^^^ BitVec.ofInt IntKind.u32.bits (a : Int)).toNat = ((4294967295 ^^^ a : Nat) : Int) :=
  u32_xor 4294967295 a (by decide) ha
theorem u32_add (a b : Nat) : IntKind.wrap .u32 ((a : Int) + (b : Int)) = (((a + b) % 4294967296 : Nat) : Int) := by rw [wrap_u32]; omega
theorem u32_wr (a : Nat) : IntKind.wrap .u32 (a : Int) = ((a % 4294967296 : Nat) : Int) := by rw [wrap_u32]; omega

theorem and31 : ∀ n : Fin 32, 0 < n.val → IntKind.wrap .u64 (BitVec.ofInt IntKind.u64.bits (IntKind.wrap .u64 (-(n.val : Int))) &&& BitVec.ofInt IntKind.u64.bits 31).toNat = ((32 - n.val : Nat) : Int) := by decide +kernel

theorem sub32 (n : Nat) (h : n < 32) : IntKind.wrap .u64 (32 - ((32 - n : Nat) : Int)) = (n : Int) := by rw [wrap_u64]; omega

end Go.Proofs.Ytgnjdpaenojfhaa

/- hash.spread: a block's words. -/
namespace Go.Proofs.Ytgnjdpaenojfhaa
open Go Go.Vc Go.Sha

/-- The words as far as they are there, noughts behind them. -/
def Wz (b : List Nat) (i : Nat) : List Nat := W b i ++ List.replicate (64 - i) 0
/-- .. the word at i being put together. -/
def Wp (b : List Nat) (i k : Nat) : List Nat := W b i ++ bpart b (4 * i) k :: List.replicate (63 - i) 0

theorem Wz_len (b : List Nat) (i : Nat) (h : i ≤ 64) : (Wz b i).length = 64 := by simp [Wz, W_length]; omega
theorem Wp_len (b : List Nat) (i k : Nat) (h : i < 64) : (Wp b i k).length = 64 := by simp [Wp, W_length]; omega
theorem Wz_zero (b : List Nat) (i : Nat) (h : i < 64) : Wz b i = Wp b i 0 := by
  unfold Wz Wp
  rw [show 64 - i = (63 - i) + 1 by omega, List.replicate_succ]
  rfl
theorem Wp_four (b : List Nat) (i : Nat) (h : i < 16) : Wp b i 4 = Wz b (i + 1) := by
  unfold Wz Wp
  rw [show 64 - (i + 1) = 63 - i by omega]
  simp [W, wd, W_length, h]
theorem Wp_set (b : List Nat) (i k x : Nat) (hx : x = bpart b (4 * i) (k + 1)) : (Wp b i k).set i x = Wp b i (k + 1) := by
  unfold Wp
  rw [List.set_append_right _ _ (by simp [W_length]), W_length]
  simp [hx]
theorem Wz_set (b : List Nat) (i x : Nat) (h : i < 64) (hx : x = wd b (W b i)) : (Wz b i).set i x = Wz b (i + 1) := by
  unfold Wz
  rw [List.set_append_right _ _ (by simp [W_length]), W_length, show 64 - i = (64 - (i + 1)) + 1 by omega, List.replicate_succ]
  simp [hx, W]
theorem Wp_at (b : List Nat) (i k : Nat) : (Wp b i k).getD i 0 = bpart b (4 * i) k := by
  simp [Wp, List.getD_eq_getElem?_getD, W_length]
theorem Wz_at (b : List Nat) (i j : Nat) (h : j < i) : (Wz b i).getD j 0 = (W b i).getD j 0 := by
  simp only [Wz, List.getD_eq_getElem?_getD]
  rw [List.getElem?_append_left (by rw [W_length]; exact h)]

end Go.Proofs.Ytgnjdpaenojfhaa

/- (*hash.words).block: a block taken into a sum. -/
namespace Go.Proofs.Ytgnjdpaenojfhaa
open Go Go.Vc Go.Sha

end Go.Proofs.Ytgnjdpaenojfhaa

/- bytes.Clone, hash.start, hash.Sum. -/
namespace Go.Proofs.Ytgnjdpaenojfhaa
open Go Go.Vc Go.Sha

set_option maxRecDepth 10000 in set_option maxHeartbeats 4000000 in
theorem Clone_calls (v : Value) (n : Nat) (l : List Nat) (w : World) (hs : SrcW w 1 v n (u8s l)) (hn : n ≤ 1099511627776) :
    Makes Try.prog 32 [v] w 5 1 n (u8s l) := by
  obtain ⟨a, c, hv, hmc⟩ := hs.shape
  refine enter Try.func32 rfl (Mem.nil w []) rfl ?_
  (repeat refine RC.seq ?_); refine RC.region ?_
  refine Run.a (Val.of rfl) ?_
  refine Run.nil (RQ.next ?_)
  (repeat refine RC.seq ?_); refine RC.region ?_
  refine Run.a (Val.of rfl) ?_
  refine Run.a (Val.eqNil tabOk rfl rfl rfl (by rw [hv]; rfl) rfl) ?_
  refine Run.nil (RQ.next ?_)
  (repeat refine RC.seq ?_); refine RC.cond rfl (fun h => ?_) (fun h => ?_)
  · generalize u8s l = cs at *
    cases hs with
    | «at» => cases hv; cases h
    | nil =>
      (repeat refine RC.seq ?_); refine RC.region ?_
      refine Run.a (Val.of rfl) ?_
      refine Run.nil (RQ.next ?_)
      refine RC.ret ?_; (repeat first | refine RQ.thenRet ?_ | refine RQ.blockRet ?_)
      exact RQ.ret1 rfl (Res.tmp rfl) fun w' hm => Makes.of Own.nil (L' := []) (by simpa using hm)
  · refine RC.skip (RQ.next ?_)
    (repeat refine RC.seq ?_); refine RC.region ?_
    refine Run.nw (New.buildSlice tabOk (parts := []) (cells := #[]) rfl rfl rfl rfl rfl rfl (fillS_nil _ _)) ?_
    intro b0
    refine Run.a (Val.of rfl) ?_
    refine Run.op rfl (OpTo.append tabOk (Own.row b0 0 0 [] [] rfl rfl (Nat.le_refl _) (Nat.zero_le _)) (hs.src) rfl rfl rfl rfl rfl rfl rfl rfl rfl (List.Perm.refl _) (u8s_one l) (by unfold maxLen; omega) (by simp only [ti5]; omega)) ?_
    rintro ⟨⟨v', bl⟩, hown⟩
    refine Run.a (Val.of rfl) ?_
    refine Run.nil (RQ.next ?_)
    exact RC.ret (RQ.ret1 rfl (Res.tmp rfl) fun w' hm => Makes.of (e := 5) (sz := 1) (by have h := hown; rw [Nat.zero_add] at h; exact h) hm)

end Go.Proofs.Ytgnjdpaenojfhaa

/- hash.Sum is SHA-256. -/
namespace Go.Proofs.Ytgnjdpaenojfhaa
open Go Go.Vc Go.Sha


/-- Where the text's rest begins behind k blocks. -/
def restAt (b cap : Nat) : Nat → Addr
  | 0 => ⟨b, 0, none⟩
  | k + 1 => if cap - 64 * k = 64 then restAt b cap k else (restAt b cap k).add 64
theorem restAt_eq (b cap : Nat) : ∀ k, 64 * k < cap → restAt b cap k = ⟨b, 64 * k, none⟩
  | 0, _ => rfl
  | k + 1, h => by
    unfold restAt
    rw [if_neg (by omega), restAt_eq b cap k (by omega), add_lit]
    rfl

theorem Own.row' {e : TypeId} {sz : Nat} {v : Value} {m : Nat} {cs : List Value} {bl : Hp} (h : Own e sz v m cs bl) (hm : 0 < m) :
    ∃ b cap rest, v = .slice (some ⟨b, 0, none⟩) m cap ∧ bl = [(b, .cells (cs ++ rest).toArray e (0, 0))] ∧ cs.length = m * sz ∧ m ≤ cap ∧ cap ≤ maxLen ∧ (cs ++ rest).length = cap * sz := by
  cases h with
  | nil => cases hm
  | row b n cap cs rest h1 h2 hn hc => exact ⟨b, cap, rest, rfl, rfl, h1, hn, hc, h2⟩

theorem V8.getD_lt {s : V8} (hs : s.lt) (i : Nat) : s.l.getD i 0 < 4294967296 := by
  rw [List.getD_eq_getElem?_getD]
  cases h : s.l[i]? with
  | none => decide
  | some x => exact hs x (List.mem_of_getElem? h)
theorem outB_set (s : V8) (i : Nat) (h : i < 32) : (outB s i ++ List.replicate (32 - i) 0).set i (s.l.getD (i / 4) 0 / 2 ^ (24 - i % 4 * 8) % 256) = outB s (i + 1) ++ List.replicate (32 - (i + 1)) 0 := by
  rw [List.set_append_right _ _ (by rw [outB_len]; exact Nat.le_refl _), outB_len, Nat.sub_self, outB_succ, show 32 - i = (32 - (i + 1)) + 1 by omega, List.replicate_succ, List.set_cons_zero, List.append_assoc]
  rfl

end Go.Proofs.Ytgnjdpaenojfhaa
