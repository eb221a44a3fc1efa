/- The reference's turned, rounds, Num. -/
import Derived.Test.YtilfbomjaflbjaaDoorDigT
namespace Go.Proofs.YtilfbomjaflbjaaDoor
open Go Go.Vc Go.Sha

set_option maxRecDepth 10000 in
theorem turned_calls (x n : Nat) (hx : x < 4294967296) (h0 : 0 < n) (h1 : n < 32) (w : World) :
    Gives Tryd.prog 70 [.int .u32 x, .int .u64 n] (.int .u32 (rotr n x)) w := by
  refine enter Tryd.func70 rfl (Mem.nil w []) rfl ?_
  (repeat refine RC.seq ?_); refine RC.region ?_
  repeat (refine Run.v rfl rfl rfl (Val.of rfl) ?_)
  refine Run.nil (RQ.next ?_)
  (repeat refine RC.seq ?_); refine RC.region ?_
  refine Run.v rfl rfl rfl (Val.of rfl) ?_
  refine Run.v rfl rfl rfl (Val.of rfl) ?_
  refine Run.v rfl rfl rfl (Val.shr rfl rfl rfl (by show _ ≤ 32; omega)) ?_
  refine Run.v rfl rfl rfl (Val.of rfl) ?_
  refine Run.v rfl rfl rfl (Val.of rfl) ?_
  refine Run.v rfl rfl rfl (Val.eq (Val.ar rfl rfl rfl rfl (by dsimp only [inK]; omega)) (show _ = Value.int .u64 ((32 - n : Nat) : Int) from by congr 1; omega)) ?_
  refine Run.v rfl rfl rfl (Val.eq (Val.shl rfl rfl rfl (by show _ ≤ 32; omega)) (congrArg (Value.int .u32) (u32_wr _))) ?_
  refine Run.v rfl rfl rfl (Val.eq (Val.of rfl) (show _ = Value.int .u32 ((rotr n x : Nat) : Int) from congrArg (Value.int .u32) (by unfold rotr; rw [u32_or _ _ (Nat.lt_of_le_of_lt (Nat.div_le_self _ _) hx) (Nat.mod_lt _ (by decide)), Nat.or_comm]))) ?_
  refine Run.v rfl rfl rfl (Val.of rfl) ?_
  refine Run.nil (RQ.next ?_)
  refine RC.ret ?_; (repeat first | refine RQ.thenRet ?_ | refine RQ.blockRet ?_); exact RQ.ret1 rfl (Res.tmp rfl) fun w' hm => ⟨rfl, hm.fr⟩

set_option maxRecDepth 10000 in
theorem rounds_calls (w : World) : Gives Tryd.prog 69 [] (.agg (u32s K).toArray) w := by
  refine enter Tryd.func69 rfl (Mem.nil w []) rfl ?_
  (repeat refine RC.seq ?_); refine RC.region ?_
  refine Run.mk rfl rfl rfl (New.alloc tabOk rfl rfl) ?_
  intro b0
  refine Run.nil (RQ.next ?_)
  have hK : (u32s K).toArray.size = 64 := rfl
  (repeat refine RC.seq ?_); refine RC.region ?_
  refine Run.v rfl rfl rfl (Val.buildA tabOk (parts := (List.range 64).map fun i => (i, .const (.int .u32 (K.getD i 0 : Nat)))) (vs := u32s K) (cells := (u32s K).toArray) rfl rfl rfl rfl rfl (by kernel_rfl)) ?_
  have h1 := u32s_one K
  generalize u32s K = k at *
  refine Run.storeAll tabOk rfl rfl rfl rfl rfl rfl (List.Perm.refl _) hK rfl (fun u hu => h1 u (by simpa [Value.cells] using hu)) ?_
  exact Run.nil (RQ.next (RC.ret (RQ.ret1 rfl (Res.cellAll tabOk rfl rfl rfl List.mem_cons_self hK) fun w' hm => ⟨rfl, hm.fr⟩)))

/-- The k lowest bytes of a number, the lowest first. -/
def le (n : Nat) : Nat → List Nat
  | 0 => []
  | k + 1 => le n k ++ [n / 2 ^ (8 * k) % 256]
theorem le_len (n : Nat) : ∀ k, (le n k).length = k
  | 0 => rfl
  | k + 1 => by simp [le, le_len n k]
theorem le_four (n : Nat) : le n 4 = le4 n := by simp [le, le4]

set_option maxRecDepth 10000 in
theorem Num_calls (n k : Nat) (hk : k ≤ 8) (w : World) :
    Makes Tryd.prog 63 [.int .i64 n, .int .i64 k] w 5 1 k (u8s (le n k)) := by
  refine enter Tryd.func63 rfl (Mem.nil w []) rfl ?_
  (repeat refine RC.seq ?_); refine RC.region ?_
  refine Run.v rfl rfl rfl (Val.of rfl) ?_
  refine Run.nil (RQ.next ?_)
  (repeat refine RC.seq ?_); refine RC.region ?_
  refine Run.v rfl rfl rfl (Val.of rfl) ?_
  refine Run.nil (RQ.next ?_)
  (repeat refine RC.seq ?_); refine RC.region ?_
  refine Run.v rfl rfl rfl (Val.of rfl) ?_
  refine Run.nil (RQ.next ?_)
  (repeat refine RC.seq ?_); refine RC.block ?_
  refine RC.up k (D := Value × Hp) (fun i x => Own 5 1 x.1 i (u8s (le n i)) x.2)
    (fun i x => [(6, .int .i64 i), (5, x.1), (0, .int .i64 n), (1, .int .i64 k)])
    (fun i x => x.2)
    0 (_, _) (Nat.zero_le _) Own.nil ⟨rfl, rfl, rfl, rfl, trivial⟩ (List.nil_sublist _) ?_
  rintro i ⟨v5, bl5⟩ hi hown
  dsimp only at hown ⊢
  (repeat refine RC.seq ?_); refine RC.region ?_
  repeat (refine Run.v rfl rfl rfl (Val.of rfl) ?_)
  refine Run.nil (RQ.next ?_)
  (repeat refine RC.seq ?_); refine RC.wh rfl (fun h => RQ.next ?_) (fun h => ?_)
  · have hi' : i < k := by have := of_decide_eq_true h; omega
    clear h
    (repeat refine RC.seq ?_); refine RC.block ?_
    refine RC.region ?_
    refine Run.v rfl rfl rfl (Val.of rfl) ?_
    refine Run.v rfl rfl rfl (Val.of rfl) ?_
    refine Run.v rfl rfl rfl (Val.of rfl) ?_
    refine Run.v rfl rfl rfl (Val.eq (Val.ar rfl rfl rfl rfl (by dsimp only [inK]; omega)) (show _ = Value.int .i64 ((8 * i : Nat) : Int) from by congr 1)) ?_
    refine Run.v rfl rfl rfl (Val.convIn tabOk rfl rfl rfl rfl rfl rfl (by simp only [inK]; omega)) ?_
    refine Run.v rfl rfl rfl (Val.shr (m := 8 * i) rfl rfl rfl (by show _ ≤ 64; omega)) ?_
    refine Run.v rfl rfl rfl (Val.eq (Val.conv tabOk rfl rfl rfl rfl rfl rfl) (show _ = Value.int .u8 ((n / 2 ^ (8 * i) % 256 : Nat) : Int) from congrArg (Value.int .u8) (by rw [wrap_u8]; rfl))) ?_
    refine Run.mk rfl rfl rfl (New.buildSlice tabOk (parts := [(0, .tmp 18)]) (cells := (u8s [n / 2 ^ (8 * i) % 256]).toArray) rfl rfl rfl rfl rfl rfl (fillS_full 1 1 _ [.int .u8 _] rfl (by simp [Value.cells]))) ?_
    intro b4
    refine Run.op rfl (OpTo.append tabOk hown (Src.at ⟨b4, 0, none⟩ 1 1 (u8s [n / 2 ^ (8 * i) % 256]) rfl (Rd.rowAll List.mem_cons_self)) rfl rfl rfl rfl rfl rfl rfl rfl rfl (List.perm_append_comm (l₁ := [_]) (l₂ := bl5)) (u8s_one _) (by unfold maxLen; omega) (by simp only [ti5]; omega)) ?_
    rintro ⟨⟨v6, bl6⟩, hown6⟩
    refine Run.v rfl rfl rfl (Val.of rfl) ?_
    refine Run.nil (RQ.blockNormal (RQ.next ?_))
    refine RC.region ?_
    repeat (first | refine Run.v rfl rfl rfl (Val.ar rfl rfl rfl rfl (by dsimp only [inK]; omega)) ?_ | refine Run.v rfl rfl rfl (Val.of rfl) ?_)
    refine Run.nil (RQ.up (i + 1) (v6, bl6) (Nat.lt_succ_self _) hi' ?_ ⟨rfl, rfl, rfl, rfl, trivial⟩ (List.sublist_append_left _ _))
    have h := hown6
    rw [← u8s_app] at h
    exact h
  · have hi' : i = k := by have := of_decide_eq_false h; omega
    subst hi'
    (repeat refine RQ.thenExit ?_); refine RQ.blockHere ?_
    refine RQ.next ?_
    (repeat refine RC.seq ?_); refine RC.region ?_
    refine Run.v rfl rfl rfl (Val.of rfl) ?_
    refine Run.v rfl rfl rfl (Val.of rfl) ?_
    refine Run.nil (RQ.next ?_)
    exact RC.ret (RQ.ret1 rfl (Res.tmp rfl) fun w' hm => Makes.of (L' := []) hown (by simpa using hm))

end Go.Proofs.YtilfbomjaflbjaaDoor
