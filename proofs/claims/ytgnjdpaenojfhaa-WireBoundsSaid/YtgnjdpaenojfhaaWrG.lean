/- wire: the reader's Num. -/
import Derived.Test.YtgnjdpaenojfhaaWrF
set_option linter.unusedSimpArgs false
set_option linter.unusedVariables false
namespace Go.Sha
/-- The number whose bytes these are, the lowest first. -/
def num8 : List Nat → Nat
  | [] => 0
  | x :: l => x + 256 * num8 l
theorem num8_app : ∀ (l : List Nat) (x : Nat), num8 (l ++ [x]) = num8 l + x * 2 ^ (8 * l.length)
  | [], x => by simp [num8]
  | y :: l, x => by
    have := num8_app l x
    simp only [List.cons_append, num8, this, List.length_cons, Nat.mul_add, Nat.pow_add]
    rw [Nat.add_assoc, Nat.add_left_cancel_iff, Nat.add_left_cancel_iff, ← Nat.mul_assoc, Nat.mul_comm 256 x, Nat.mul_assoc, Nat.mul_comm 256]
theorem num8_lt : ∀ (l : List Nat), (∀ x ∈ l, x < 256) → num8 l < 2 ^ (8 * l.length)
  | [], _ => by simp [num8]
  | y :: l, h => by
    have h1 := h y List.mem_cons_self
    have h2 := num8_lt l (fun x hx => h x (List.mem_cons_of_mem _ hx))
    simp only [num8, List.length_cons, Nat.mul_add, Nat.pow_add]
    omega
end Go.Sha
namespace Go.Proofs.Ytgnjdpaenojfhaa
attribute [local irreducible] Go.Vc.Run Go.Vc.RC Go.Vc.RQ Go.Vc.DR Go.Vc.DOp
open Go Go.Vc Go.Sha
theorem RNum_ok (rb n k m : Nat) (ad : Addr) (hrb : ad.block ≠ rb) (hn : n ≤ 1000000) (hm : 1 ≤ m ∧ m ≤ 7) (hk : k + m ≤ n) (l : List Nat) (hl : l.length = m) (hb : ∀ x ∈ l, x < 256) (w : World) (hs : w.heap[rb]? = some (.cells #[.slice (some ad) n n, .int .i64 k] 61 (0, 0)))
    (hr : ∀ j u, (u8s l)[j]? = some u → w.cell? (ad.add (k + j)) = some u) :
    Turns Try.prog 18 [.pointer (some ⟨rb, 0, none⟩), .int .i64 m] w [(rb, Obj.cells #[Value.slice (some ad) n n, .int .i64 k] 61 (0, 0))] (Y := Unit) (fun _ => .int .i64 (num8 l : Nat)) (fun _ => [(rb, Obj.cells #[Value.slice (some ad) n n, .int .i64 ((k + m : Nat) : Int)] 61 (0, 0))]) := by
  have hL : Has [(rb, Obj.cells #[Value.slice (some ad) n n, .int .i64 k] 61 (0, 0))] w := fun p hp => by rw [List.mem_singleton] at hp; subst hp; exact hs
  refine enter Try.func18 rfl (Mem.init (S0 := ([(rb, Obj.cells #[Value.slice (some ad) n n, .int .i64 k] 61 (0, 0))] : Hp).map (·.1)) hL (fun p hp => List.mem_map_of_mem hp) (by simp)) rfl ?_
  have hz : ([(rb, Obj.cells #[Value.slice (some ad) n n, .int .i64 k] 61 (0, 0))] : Hp).Perm ([(rb, Obj.cells #[Value.slice (some ad) n n, .int .i64 k] 61 (0, 0))] ++ []) := List.Perm.refl _
  refine z_ ?_
  refine Run.op1 (OpTo.callT Try.func31 hz (fun w' hm => take_ok rb n k m ad hn hk w' (hm.has _ m0))) ?_
  intro _
  obtain ⟨ad', had⟩ : ∃ a, a = (if n = k then ad else ad.add (k * 1)) := ⟨_, rfl⟩
  rw [← had]
  have had' : ad' = ad.add k := by rw [had, if_neg (by omega), Nat.mul_one]
  clear had
  refine z_ ?_
  refine RC.up m (D := Unit) (fun _ _ => True) (fun i _ => [(22, .int .i64 i), (21, .int .i64 m), (20, .slice (some ad') m (n - k)), (5, .int .i64 (num8 (l.take i) : Nat))])
    (fun _ _ => [(rb, Obj.cells #[Value.slice (some ad) n n, .int .i64 ((k + m : Nat) : Int)] 61 (0, 0))]) 0 () (Nat.zero_le _) trivial ⟨rfl, rfl, rfl, rfl, trivial⟩ (List.Sublist.refl _) ?_
  intro i _ hi _
  refine z_ ?_
  (repeat refine RC.seq ?_); refine RC.wh rfl (fun h => RQ.next ?_) (fun h => ?_)
  · have hi' : i < m := by have := of_decide_eq_true h; omega
    clear h
    obtain ⟨x, hx⟩ : ∃ x, l[i]? = some x := ⟨_, List.getElem?_eq_getElem (by omega)⟩
    have hcx : w.cell? (ad'.add i) = some (.int .u8 x) := by rw [had', add_add]; exact hr i _ (by unfold u8s; rw [List.getElem?_map, hx]; rfl)
    refine z_ ?_
    refine Run.a (vix i hi' (ad'.add i) (ha := by show ad'.add (i * 1) = _; rw [Nat.mul_one])) ?_
    refine Run.a (vlo hcx (hS := by rw [had']; intro h; have h' := List.mem_singleton.1 h; rw [add_add] at h'; exact hrb ((show (ad.add (k + i)).block = ad.block by first | rfl | (unfold Addr.add; split <;> rfl)).symm.trans h'))) ?_
    have hx8 : x < 256 := hb x (List.mem_of_getElem? hx)
    have htk : l.take (i + 1) = l.take i ++ [x] := by rw [List.take_add_one, hx]; rfl
    have hli : (l.take i).length = i := by rw [List.length_take]; omega
    have hlt := num8_lt (l.take i) (fun y hy => hb y (List.mem_of_mem_take hy))
    have hnx := num8_app (l.take i) x
    rw [← htk, hli] at hnx
    rw [hli] at hlt
    have hp : 2 ^ (8 * i) ≤ 2 ^ 48 := Nat.pow_le_pow_right (by decide) (by omega)
    have hxm : x * 2 ^ (8 * i) ≤ 255 * 2 ^ 48 := Nat.mul_le_mul (by omega) hp
    have hv : IntKind.i64.wrap ((BitVec.ofInt IntKind.i64.bits (num8 (l.take i) : Nat) ||| BitVec.ofInt IntKind.i64.bits (IntKind.i64.wrap ((x : Int) * 2 ^ min (8 * (i : Int)).toNat IntKind.i64.bits))).toNat : Nat) = ((num8 (l.take (i + 1)) : Nat) : Int) := by
      have e0 : min (8 * (i : Int)).toNat IntKind.i64.bits = 8 * i := by show min _ 64 = _; omega
      have e2 : ((x : Nat) : Int) * 2 ^ (8 * i) = ((x * 2 ^ (8 * i) : Nat) : Int) := by push_cast; rfl
      have e3 : IntKind.i64.wrap ((x * 2 ^ (8 * i) : Nat) : Int) = ((x * 2 ^ (8 * i) : Nat) : Int) := wrap_in (by dsimp only [inK]; omega)
      rw [e0, e2, e3]
      have eo : num8 (l.take i) ||| x * 2 ^ (8 * i) = num8 (l.take (i + 1)) := by
        rw [Nat.or_comm, or_shift x (num8 (l.take i)) (2 ^ (8 * i)) (8 * i) rfl hlt, hnx, Nat.add_comm]
      have eb : (BitVec.ofInt IntKind.i64.bits ((num8 (l.take i) : Nat) : Int) ||| BitVec.ofInt IntKind.i64.bits ((x * 2 ^ (8 * i) : Nat) : Int)).toNat = num8 (l.take (i + 1)) := by
        rw [BitVec.toNat_or, BitVec.ofInt_natCast, BitVec.ofInt_natCast, BitVec.toNat_ofNat, BitVec.toNat_ofNat, show IntKind.i64.bits = 64 from rfl, Nat.mod_eq_of_lt (by omega), Nat.mod_eq_of_lt (by omega), eo]
      rw [eb]
      exact wrap_in (by dsimp only [inK]; omega)
    refine z_ ?_
    exact RQ.upP (i + 1) () (Nat.lt_succ_self _) hi' trivial ⟨rfl, rfl, rfl, congrArg (fun z => some (Value.int .i64 z)) hv, trivial⟩ (L1 := [(rb, Obj.cells #[Value.slice (some ad) n n, .int .i64 ((k + m : Nat) : Int)] 61 (0, 0))] ++ []) (perm_of fun f => by (simp only [List.map_append, List.map_cons, List.map_nil, List.sum_append, List.sum_cons, List.sum_nil] <;> omega)) (List.sublist_append_left _ _)
  · have hi' : m = i := by have := of_decide_eq_false h; omega
    subst hi'
    rw [List.take_of_length_le (by omega)]
    (repeat refine RQ.thenExit ?_); refine RQ.blockHere ?_
    refine z_ ?_
    exact RQ.ret1 rfl (Res.tmp rfl) fun w' hm => Turns.of (Y := Unit) (V := fun _ => .int .i64 (num8 l : Nat)) (L' := fun _ => [(rb, Obj.cells #[Value.slice (some ad) n n, .int .i64 ((k + m : Nat) : Int)] 61 (0, 0))]) (Lst := [(rb, Obj.cells #[Value.slice (some ad) n n, .int .i64 k] 61 (0, 0))]) () hm (Lr := []) (perm_of fun f => by (simp only [List.map_append, List.map_cons, List.map_nil, List.sum_append, List.sum_cons, List.sum_nil] <;> omega))
end Go.Proofs.Ytgnjdpaenojfhaa
