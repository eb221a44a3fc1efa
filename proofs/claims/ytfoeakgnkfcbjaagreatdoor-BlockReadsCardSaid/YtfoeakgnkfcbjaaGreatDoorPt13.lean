/- Lemmas. -/
import Derived.Test.YtfoeakgnkfcbjaaGreatDoorPt12
set_option linter.unusedSimpArgs false
set_option linter.unusedVariables false
section
set_option maxRecDepth 10000
/- wire: the reader. -/
namespace Go.Vc
open Go
theorem Val.mkI {P : Program} {n : Nat} {w0 : World} {S0 : List Nat} {E : Env} {L : Hp} {o : Oper} {T : List (Nat × TI)} (hT : TabOk P T) {t : TypeId} {ti : TI} {fs : Array Field} {x : Operand} {v : Value} (ho : o.op = .makeInterface t x) (ht : tiGet T t = some ti) (hd : ti.desc = .struct fs) (hx : lk E x = some v) : Val P n w0 S0 E L o (.iface t v) := by
  intro a w hs _
  have h2 := (hT _ _ ht).1
  rw [hd] at h2
  simp [execOp, ho, hs.eval hx, Instr.makeInterface, run_underlying h2]
end Go.Vc
namespace Go.Proofs.YtfoeakgnkfcbjaaGreatDoor
attribute [local irreducible] Go.Vc.Run Go.Vc.RC Go.Vc.RQ Go.Vc.DR Go.Vc.DOp
open Go Go.Vc Go.Sha
set_option maxRecDepth 10000 in set_option maxHeartbeats 4000000 in
theorem RLeft_calls (rb n c k : Nat) (a : Option Addr) (hn : n ≤ 1000000) (hk : k ≤ n) (w : World) (hs : w.heap[rb]? = some (.cells #[.slice a n c, .int .i64 k] 134 (0, 0))) :
    Gives Tryz.prog 76 [.pointer (some ⟨rb, 0, none⟩)] (.int .i64 ((n : Int) - k)) w := by
  refine enter Tryz.func76 rfl (Mem.nil w []) rfl ?_
  have hc0 : w.cell? ⟨rb, 0, none⟩ = some (.slice a n c) := by rw [cell_of_row w rb 0 _ _ _ hs]; rfl
  have hc1 : w.cell? ⟨rb, 1, none⟩ = some (.int .i64 k) := by rw [cell_of_row w rb 1 _ _ _ hs]; rfl
  refine z_ ?_
  (repeat refine RC.seq ?_); refine RC.drawS mixed (N := 11) rfl ?_
  refine dt 0 ?_
  refine dt 1 ?_
  refine dt 2 ?_
  refine DR.t 3 rfl (vlo hc0) ?_
  refine dt 4 ?_
  refine dt 5 ?_
  refine dt 6 ?_
  refine dt 7 ?_
  refine DR.t 8 rfl (vlo hc1) ?_
  refine dt 9 ?_
  refine dt 10 ?_
  refine DR.done (by kernel_rfl) ?_
  refine z_ ?_
  exact RQ.ret1 rfl (Res.tmp rfl) fun w' hm => ⟨rfl, hm.fr⟩
/-- What a reader panics with. -/
abbrev shortP : List PanicEntry := [{ v := .iface 126 (.agg #[]), recovered := false }]
theorem take_short (rb n c k m : Nat) (a : Option Addr) (hn : n ≤ 1000000) (hk : k ≤ n) (hm : n - k < m) (w : World) (hs : w.heap[rb]? = some (.cells #[.slice a n c, .int .i64 k] 134 (0, 0))) :
    Calls Tryz.prog 77 #[.pointer (some ⟨rb, 0, none⟩), .int .i64 m] w fun e w' => e = .panicked shortP ∧ Fr [] w w' := by
  refine enter (vs := [.pointer (some ⟨rb, 0, none⟩), .int .i64 m]) Tryz.func77 rfl (Mem.nil w []) rfl ?_
  refine z_ ?_
  refine Run.op1 (OpTo.cv Tryz.func76 (fun w' hm => RLeft_calls rb n c k a hn hk w' (hm.old hs))) (fun _ => ?_)
  refine z_ ?_
  refine Run.a (vbs #[]) ?_
  refine Run.a (Val.mkI tabOk rfl rfl rfl rfl) ?_
  refine Run.panic (v := .agg #[]) (pt := 126) ?_
  repeat first | refine RQ.thenPanic ?_ | refine RQ.blockPanic ?_
  exact RQ.panic fun w' hm => ⟨rfl, hm.fr⟩
theorem take_ok (rb n k m : Nat) (ad : Addr) (hn : n ≤ 1000000) (hk : k + m ≤ n) (w : World) (hs : w.heap[rb]? = some (.cells #[.slice (some ad) n n, .int .i64 k] 134 (0, 0))) :
    Turns Tryz.prog 77 [.pointer (some ⟨rb, 0, none⟩), .int .i64 m] w [(rb, Obj.cells #[Value.slice (some ad) n n, .int .i64 k] 134 (0, 0))] (Y := Unit) (fun _ => .slice (some (if n = k then ad else ad.add (k * 1))) m (n - k)) (fun _ => [(rb, Obj.cells #[Value.slice (some ad) n n, .int .i64 ((k + m : Nat) : Int)] 134 (0, 0))]) := by
  have hL : Has [(rb, Obj.cells #[Value.slice (some ad) n n, .int .i64 k] 134 (0, 0))] w := fun p hp => by rw [List.mem_singleton] at hp; subst hp; exact hs
  refine enter Tryz.func77 rfl (Mem.init (S0 := ([(rb, Obj.cells #[Value.slice (some ad) n n, .int .i64 k] 134 (0, 0))] : Hp).map (·.1)) hL (fun p hp => List.mem_map_of_mem hp) (by simp)) rfl ?_
  refine z_ ?_
  refine Run.op1 (OpTo.cv Tryz.func76 (fun w' hm => RLeft_calls rb n n k (some ad) hn (by omega) w' (hm.has _ m0))) (fun _ => ?_)
  refine z_ ?_
  refine Run.op1 (os1 #[Value.slice (some ad) n n, .int .i64 ((k + m : Nat) : Int)]) (fun _ => ?_)
  refine z_ ?_
  (repeat refine RC.seq ?_); refine RC.drawS mixed (N := 16) rfl ?_
  refine dt 0 ?_
  refine dt 1 ?_
  refine dt 2 ?_
  refine dt 3 ?_
  refine dt 4 ?_
  refine dt 5 ?_
  refine dt 6 ?_
  refine dt 7 ?_
  refine dt 8 ?_
  refine dt 9 ?_
  refine dt 10 ?_
  refine dt 11 ?_
  refine dt 12 ?_
  refine dt 13 ?_
  refine DR.t 14 rfl (Val.sliceS tabOk (zl := k) (zh := k + m) rfl rfl rfl rfl rfl (.inr ⟨_, rfl, by show some (Value.int _ _) = _; congr 2; omega⟩) (.inr ⟨_, rfl, rfl⟩) (by omega) (by omega)) ?_
  refine dt 15 ?_
  refine DR.done (by kernel_rfl) ?_
  refine z_ ?_
  rw [show k + m - k = m from by omega]
  exact RQ.ret1 rfl (Res.tmp rfl) fun w' hm => Turns.of (Y := Unit) (V := fun _ => .slice (some (if n = k then ad else ad.add (k * 1))) m (n - k)) (L' := fun _ => [(rb, Obj.cells #[Value.slice (some ad) n n, .int .i64 ((k + m : Nat) : Int)] 134 (0, 0))]) (Lst := [(rb, Obj.cells #[Value.slice (some ad) n n, .int .i64 k] 134 (0, 0))]) () hm (Lr := []) (perm_of fun f => by (simp only [List.map_append, List.map_cons, List.map_nil, List.sum_append, List.sum_cons, List.sum_nil] <;> omega))
end Go.Proofs.YtfoeakgnkfcbjaaGreatDoor

/- wire: a new reader. -/
namespace Go.Vc
open Go
/-- A slice of itself, which leaves no room behind it. -/
theorem Val.slice3 {P : Program} {n : Nat} {w0 : World} {S0 : List Nat} {E : Env} {L : Hp} {o : Oper} {T : List (Nat × TI)} (hT : TabOk P T) {t : TypeId} {ti ei : TI} {x y z : Operand} {a : Option Addr} {len cap el : Nat} (ho : o.op = .slice t x none (some y) (some z)) (ht : tiGet T t = some ti) (hd : ti.desc = .slice el) (he : tiGet T el = some ei)
    (hx : lk E x = some (.slice a len cap)) (hy : lk E y = some (.int .i64 len)) (hz : lk E z = some (.int .i64 len)) (h1 : len ≤ cap) (h2 : len ≤ 1000000) : Val P n w0 S0 E L o (.slice a len len) := by
  intro ac w hs _
  have hu := (hT _ _ ht).1
  rw [hd] at hu
  have b1 := run_sliceBound (P := P) w .i64 len cap .slice3Acap (by omega) (by omega)
  have b2 := run_sliceBound (P := P) w .i64 len len .slice3B (by omega) (by omega)
  cases a <;> simp [execOp, ho, hs.eval hx, hs.eval hy, hs.eval hz, Instr.sliceAt, Instr.slice, run_underlying hu, Instr.sliceBounds, (hT _ _ he).size, b1, b2, Addr.add]
end Go.Vc
namespace Go.Proofs.YtfoeakgnkfcbjaaGreatDoor
attribute [local irreducible] Go.Vc.Run Go.Vc.RC Go.Vc.RQ Go.Vc.DR Go.Vc.DOp
open Go Go.Vc Go.Sha
set_option maxRecDepth 10000 in set_option maxHeartbeats 4000000 in
theorem NewReader_calls (a : Option Addr) (n c : Nat) (hn : n ≤ 1000000) (hc : n ≤ c) (w : World) : NewOf Tryz.prog 73 [.slice a n c] w (fun b => .pointer (some ⟨b, 0, none⟩)) (.cells #[.slice a n n, .int .i64 0] 134 (0, 0)) := by
  refine enter Tryz.func73 rfl (Mem.nil w []) rfl ?_
  refine z_ ?_
  refine Run.a (Val.slice3 tabOk rfl rfl rfl rfl rfl rfl rfl hc hn) ?_
  refine Run.a (vbs #[.slice a n n, .int .i64 0]) ?_
  refine Run.nw nbx ?_
  intro b
  refine z_ ?_
  exact RQ.ret1 rfl (Res.tmp rfl) fun w' hm => NewOf.of (V := fun b => .pointer (some ⟨b, 0, none⟩)) hm m0
end Go.Proofs.YtfoeakgnkfcbjaaGreatDoor

/- wire: the reader's Num. -/
namespace Go.Sha
/-- The number whose bytes these are, the lowest first. -/
def num8 : List Nat → Nat
  | [] => 0
  | x :: l => x + 256 * num8 l
theorem num8_app : ∀ (l : List Nat) (x : Nat), num8 (l ++ [x]) = num8 l + x * 2 ^ (8 * l.length)
  | [], x => by simp [num8]
  | y :: l, x => by
    have := num8_app l x
    simp only [List.cons_append, num8, this, List.length_cons, Nat.mul_add, Nat.pow_add]
    rw [Nat.add_assoc, Nat.add_left_cancel_iff, Nat.add_left_cancel_iff, ← Nat.mul_assoc, Nat.mul_comm 256 x, Nat.mul_assoc, Nat.mul_comm 256]
theorem num8_lt : ∀ (l : List Nat), (∀ x ∈ l, x < 256) → num8 l < 2 ^ (8 * l.length)
  | [], _ => by simp [num8]
  | y :: l, h => by
    have h1 := h y List.mem_cons_self
    have h2 := num8_lt l (fun x hx => h x (List.mem_cons_of_mem _ hx))
    simp only [num8, List.length_cons, Nat.mul_add, Nat.pow_add]
    omega
end Go.Sha
namespace Go.Proofs.YtfoeakgnkfcbjaaGreatDoor
attribute [local irreducible] Go.Vc.Run Go.Vc.RC Go.Vc.RQ Go.Vc.DR Go.Vc.DOp
open Go Go.Vc Go.Sha
theorem RNum_ok (rb n k m : Nat) (ad : Addr) (hrb : ad.block ≠ rb) (hn : n ≤ 1000000) (hm : 1 ≤ m ∧ m ≤ 7) (hk : k + m ≤ n) (l : List Nat) (hl : l.length = m) (hb : ∀ x ∈ l, x < 256) (w : World) (hs : w.heap[rb]? = some (.cells #[.slice (some ad) n n, .int .i64 k] 134 (0, 0)))
    (hr : ∀ j u, (u8s l)[j]? = some u → w.cell? (ad.add (k + j)) = some u) :
    Turns Tryz.prog 44 [.pointer (some ⟨rb, 0, none⟩), .int .i64 m] w [(rb, Obj.cells #[Value.slice (some ad) n n, .int .i64 k] 134 (0, 0))] (Y := Unit) (fun _ => .int .i64 (num8 l : Nat)) (fun _ => [(rb, Obj.cells #[Value.slice (some ad) n n, .int .i64 ((k + m : Nat) : Int)] 134 (0, 0))]) := by
  have hL : Has [(rb, Obj.cells #[Value.slice (some ad) n n, .int .i64 k] 134 (0, 0))] w := fun p hp => by rw [List.mem_singleton] at hp; subst hp; exact hs
  refine enter Tryz.func44 rfl (Mem.init (S0 := ([(rb, Obj.cells #[Value.slice (some ad) n n, .int .i64 k] 134 (0, 0))] : Hp).map (·.1)) hL (fun p hp => List.mem_map_of_mem hp) (by simp)) rfl ?_
  have hz : ([(rb, Obj.cells #[Value.slice (some ad) n n, .int .i64 k] 134 (0, 0))] : Hp).Perm ([(rb, Obj.cells #[Value.slice (some ad) n n, .int .i64 k] 134 (0, 0))] ++ []) := List.Perm.refl _
  refine z_ ?_
  refine Run.op1 (OpTo.callT Tryz.func77 hz (fun w' hm => take_ok rb n k m ad hn hk w' (hm.has _ m0))) ?_
  intro _
  obtain ⟨ad', had⟩ : ∃ a, a = (if n = k then ad else ad.add (k * 1)) := ⟨_, rfl⟩
  rw [← had]
  have had' : ad' = ad.add k := by rw [had, if_neg (by omega), Nat.mul_one]
  clear had
  refine z_ ?_
  refine RC.up m (D := Unit) (fun _ _ => True) (fun i _ => [(22, .int .i64 i), (21, .int .i64 m), (20, .slice (some ad') m (n - k)), (5, .int .i64 (num8 (l.take i) : Nat))])
    (fun _ _ => [(rb, Obj.cells #[Value.slice (some ad) n n, .int .i64 ((k + m : Nat) : Int)] 134 (0, 0))]) 0 () (Nat.zero_le _) trivial ⟨rfl, rfl, rfl, rfl, trivial⟩ (List.Sublist.refl _) ?_
  intro i _ hi _
  refine z_ ?_
  (repeat refine RC.seq ?_); refine RC.wh rfl (fun h => RQ.next ?_) (fun h => ?_)
  · have hi' : i < m := by have := of_decide_eq_true h; omega
    clear h
    obtain ⟨x, hx⟩ : ∃ x, l[i]? = some x := ⟨_, List.getElem?_eq_getElem (by omega)⟩
    have hcx : w.cell? (ad'.add i) = some (.int .u8 x) := by rw [had', add_add]; exact hr i _ (by unfold u8s; rw [List.getElem?_map, hx]; rfl)
    refine z_ ?_
    refine Run.a (vix i hi' (ad'.add i) (ha := by show ad'.add (i * 1) = _; rw [Nat.mul_one])) ?_
    refine Run.a (vlo hcx (hS := by rw [had']; intro h; have h' := List.mem_singleton.1 h; rw [add_add] at h'; exact hrb ((show (ad.add (k + i)).block = ad.block by first | rfl | (unfold Addr.add; split <;> rfl)).symm.trans h'))) ?_
    have hx8 : x < 256 := hb x (List.mem_of_getElem? hx)
    have htk : l.take (i + 1) = l.take i ++ [x] := by rw [List.take_add_one, hx]; rfl
    have hli : (l.take i).length = i := by rw [List.length_take]; omega
    have hlt := num8_lt (l.take i) (fun y hy => hb y (List.mem_of_mem_take hy))
    have hnx := num8_app (l.take i) x
    rw [← htk, hli] at hnx
    rw [hli] at hlt
    have hp : 2 ^ (8 * i) ≤ 2 ^ 48 := Nat.pow_le_pow_right (by decide) (by omega)
    have hxm : x * 2 ^ (8 * i) ≤ 255 * 2 ^ 48 := Nat.mul_le_mul (by omega) hp
    have hv : IntKind.i64.wrap ((BitVec.ofInt IntKind.i64.bits (num8 (l.take i) : Nat) ||| BitVec.ofInt IntKind.i64.bits (IntKind.i64.wrap ((x : Int) * 2 ^ min (8 * (i : Int)).toNat IntKind.i64.bits))).toNat : Nat) = ((num8 (l.take (i + 1)) : Nat) : Int) := by
      have e0 : min (8 * (i : Int)).toNat IntKind.i64.bits = 8 * i := by show min _ 64 = _; omega
      have e2 : ((x : Nat) : Int) * 2 ^ (8 * i) = ((x * 2 ^ (8 * i) : Nat) : Int) := by push_cast; rfl
      have e3 : IntKind.i64.wrap ((x * 2 ^ (8 * i) : Nat) : Int) = ((x * 2 ^ (8 * i) : Nat) : Int) := wrap_in (by dsimp only [inK]; omega)
      rw [e0, e2, e3]
      have eo : num8 (l.take i) ||| x * 2 ^ (8 * i) = num8 (l.take (i + 1)) := by
        rw [Nat.or_comm, or_shift x (num8 (l.take i)) (2 ^ (8 * i)) (8 * i) rfl hlt, hnx, Nat.add_comm]
      have eb : (BitVec.ofInt IntKind.i64.bits ((num8 (l.take i) : Nat) : Int) ||| BitVec.ofInt IntKind.i64.bits ((x * 2 ^ (8 * i) : Nat) : Int)).toNat = num8 (l.take (i + 1)) := by
        rw [BitVec.toNat_or, BitVec.ofInt_natCast, BitVec.ofInt_natCast, BitVec.toNat_ofNat, BitVec.toNat_ofNat, show IntKind.i64.bits = 64 from rfl, Nat.mod_eq_of_lt (by omega), Nat.mod_eq_of_lt (by omega), eo]
      rw [eb]
      exact wrap_in (by dsimp only [inK]; omega)
    refine z_ ?_
    exact RQ.upP (i + 1) () (Nat.lt_succ_self _) hi' trivial ⟨rfl, rfl, rfl, congrArg (fun z => some (Value.int .i64 z)) hv, trivial⟩ (L1 := [(rb, Obj.cells #[Value.slice (some ad) n n, .int .i64 ((k + m : Nat) : Int)] 134 (0, 0))] ++ []) (perm_of fun f => by (simp only [List.map_append, List.map_cons, List.map_nil, List.sum_append, List.sum_cons, List.sum_nil] <;> omega)) (List.sublist_append_left _ _)
  · have hi' : m = i := by have := of_decide_eq_false h; omega
    subst hi'
    rw [List.take_of_length_le (by omega)]
    (repeat refine RQ.thenExit ?_); refine RQ.blockHere ?_
    refine z_ ?_
    exact RQ.ret1 rfl (Res.tmp rfl) fun w' hm => Turns.of (Y := Unit) (V := fun _ => .int .i64 (num8 l : Nat)) (L' := fun _ => [(rb, Obj.cells #[Value.slice (some ad) n n, .int .i64 ((k + m : Nat) : Int)] 134 (0, 0))]) (Lst := [(rb, Obj.cells #[Value.slice (some ad) n n, .int .i64 k] 134 (0, 0))]) () hm (Lr := []) (perm_of fun f => by (simp only [List.map_append, List.map_cons, List.map_nil, List.sum_append, List.sum_cons, List.sum_nil] <;> omega))
end Go.Proofs.YtfoeakgnkfcbjaaGreatDoor

/- wire: the reader's panics. -/
namespace Go.Proofs.YtfoeakgnkfcbjaaGreatDoor
attribute [local irreducible] Go.Vc.Run Go.Vc.RC Go.Vc.RQ Go.Vc.DR Go.Vc.DOp
open Go Go.Vc Go.Sha
theorem RNum_short (rb n c k m : Nat) (a : Option Addr) (hn : n ≤ 1000000) (hk : k ≤ n) (hm1 : 1 ≤ m ∧ m ≤ 7) (hm : n - k < m) (w : World) (hs : w.heap[rb]? = some (.cells #[.slice a n c, .int .i64 k] 134 (0, 0))) :
    Calls Tryz.prog 44 #[.pointer (some ⟨rb, 0, none⟩), .int .i64 m] w fun e w' => e = .panicked shortP ∧ Fr [] w w' := by
  refine enter (vs := [.pointer (some ⟨rb, 0, none⟩), .int .i64 m]) Tryz.func44 rfl (Mem.nil w []) rfl ?_
  refine z_ ?_
  refine Run.op1 (OpTo.callP (Y := Empty) (Z := Unit) (V := fun y => y.elim) (L' := fun y => y.elim) (C := fun _ => shortP) (Lp := fun _ => []) Tryz.func77 (fun w' hm' => (take_short rb n c k m a hn hk hm w' (hm'.old hs)).mono ?_) (fun _ => ?_)) (fun y => y.elim)
  · rintro e w'' ⟨rfl, hf⟩
    exact .inr ⟨(), rfl, hm'.ext hf⟩
  · repeat first | refine RQ.thenPanic ?_ | refine RQ.blockPanic ?_
    exact RQ.panic fun w' hm => ⟨rfl, hm.fr⟩
end Go.Proofs.YtfoeakgnkfcbjaaGreatDoor

/- wire: the reader's Hash. -/
namespace Go.Vc
open Go
theorem Val.ptrNe2 {P : Program} {n : Nat} {w0 : World} {S0 : List Nat} {E : Env} {L : Hp} {o : Oper} {T : List (Nat × TI)} {t : Nat} {ti : TI} (hT : TabOk P T) {x y : Operand} {a : Addr} {el t2 : Nat} (ho : o.op = .binOp .neq t x y t2) (ht : tiGet T t = some ti) (hd : ti.desc = .pointer el) (hx : lk E x = some (.pointer (some a))) (hy : lk E y = some (.pointer none)) :
    Val P n w0 S0 E L o (.bool true) := by
  intro ac w hs _
  have h2 := (hT _ _ ht).1
  rw [hd] at h2
  have h3 : P.underlying t = some (.pointer (P.pointee t)) := by rw [h2]; simp [Program.pointee, h2]
  have hg : (eqGuard .neq t x y (.pointer (some a)) (.pointer none)).run P w = .ok () w := by simp [eqGuard]
  simp [execOp, ho, hs.eval hx, hs.eval hy, hg, run_neq_pointer_nil w t (some a) h3]
end Go.Vc
namespace Go.Proofs.YtfoeakgnkfcbjaaGreatDoor
attribute [local irreducible] Go.Vc.Run Go.Vc.RC Go.Vc.RQ Go.Vc.DR Go.Vc.DOp
open Go Go.Vc Go.Sha
theorem RHash_ok (rb n k : Nat) (ad : Addr) (hrb : ad.block ≠ rb) (hn : n ≤ 1000000) (hk : k + 8 ≤ n) (l : List Nat) (hl : l.length = 8) (w : World) (hs : w.heap[rb]? = some (.cells #[.slice (some ad) n n, .int .i64 k] 134 (0, 0)))
    (hr : ∀ j u, (u8s l)[j]? = some u → w.cell? (ad.add (k + j)) = some u) :
    Turns Tryz.prog 42 [.pointer (some ⟨rb, 0, none⟩)] w [(rb, Obj.cells #[Value.slice (some ad) n n, .int .i64 k] 134 (0, 0))] (Y := Unit) (fun _ => .agg (u8s l).toArray) (fun _ => [(rb, Obj.cells #[Value.slice (some ad) n n, .int .i64 ((k + 8 : Nat) : Int)] 134 (0, 0))]) := by
  have hL : Has [(rb, Obj.cells #[Value.slice (some ad) n n, .int .i64 k] 134 (0, 0))] w := fun p hp => by rw [List.mem_singleton] at hp; subst hp; exact hs
  refine enter Tryz.func42 rfl (Mem.init (S0 := ([(rb, Obj.cells #[Value.slice (some ad) n n, .int .i64 k] 134 (0, 0))] : Hp).map (·.1)) hL (fun p hp => List.mem_map_of_mem hp) (by simp)) rfl ?_
  refine z_ ?_
  refine Run.nw nal ?_
  intro b2
  refine z_ ?_
  refine Run.nw nal ?_
  intro b3
  refine z_ ?_
  refine Run.a (Val.ptrNe2 tabOk rfl rfl rfl rfl rfl) ?_
  refine z_ ?_
  (repeat refine RC.seq ?_); refine RC.draw ([(b3, Obj.cells (u8s [0, 0, 0, 0, 0, 0, 0, 0]).toArray 23 (0, 0)), (b2, Obj.cells (u8s [0, 0, 0, 0, 0, 0, 0, 0]).toArray 23 (0, 0))]) mixed (N := 4) rfl ?_
  refine DR.t 0 rfl (Val.sliceA tabOk rfl rfl rfl rfl rfl) ?_
  refine dt 1 ?_
  have hz : ([(b3, Obj.cells (u8s [0, 0, 0, 0, 0, 0, 0, 0]).toArray 23 (0, 0)), (b2, Obj.cells (u8s [0, 0, 0, 0, 0, 0, 0, 0]).toArray 23 (0, 0)), (rb, Obj.cells #[Value.slice (some ad) n n, .int .i64 k] 134 (0, 0))] : Hp).Perm ([(rb, Obj.cells #[Value.slice (some ad) n n, .int .i64 k] 134 (0, 0))] ++ [(b3, Obj.cells (u8s [0, 0, 0, 0, 0, 0, 0, 0]).toArray 23 (0, 0)), (b2, Obj.cells (u8s [0, 0, 0, 0, 0, 0, 0, 0]).toArray 23 (0, 0))]) := (perm_of fun f => by (simp only [List.map_append, List.map_cons, List.map_nil, List.sum_append, List.sum_cons, List.sum_nil] <;> omega))
  refine DR.c 2 (DOp.op1 rfl (OpTo.callT Tryz.func77 hz (fun w' hm => take_ok rb n k 8 ad hn hk w' (hm.has _ m2))) ?_)
  intro _
  rw [if_neg (show ¬ n = k by omega), Nat.mul_one]
  have hS : (ad.add k).block ∉ ([(rb, Obj.cells #[Value.slice (some ad) n n, .int .i64 k] 134 (0, 0))] : Hp).map (·.1) := by
    intro h
    have h' := List.mem_singleton.1 h
    exact hrb ((show (ad.add k).block = ad.block by first | rfl | (unfold Addr.add; split <;> rfl)).symm.trans h')
  refine DR.c 3 ?_
  refine DOp.op1 rfl (OpTo.copyTo tabOk (arr := (u8s [0, 0, 0, 0, 0, 0, 0, 0]).toArray) (e := 23) (b := b3) (off := 0) (L' := [(rb, Obj.cells #[Value.slice (some ad) n n, .int .i64 ((k + 8 : Nat) : Int)] 134 (0, 0)), (b2, Obj.cells (u8s [0, 0, 0, 0, 0, 0, 0, 0]).toArray 23 (0, 0))]) (arr' := (u8s l).toArray) (m := 8) (cs := u8s l) (Rd.old hS (fun j u hj => by rw [add_add]; exact hr j u hj)) (by rw [wrAt_all _ _ (by rw [u8s_len, hl]; rfl)]) rfl rfl rfl rfl rfl rfl rfl rfl (perm_of fun f => by (simp only [List.map_append, List.map_cons, List.map_nil, List.sum_append, List.sum_cons, List.sum_nil] <;> omega)) (by rw [u8s_len, hl]; rfl) rfl (by rw [u8s_len, hl]; decide) (u8s_one _)) (fun _ => ?_)
  refine DR.done (by kernel_rfl) ?_
  have hsz : (u8s l).toArray.size = 8 := by rw [List.size_toArray, u8s_len, hl]
  refine z_ ?_
  refine Run.a (vla (hv := hsz)) ?_
  refine Run.op1 (osa (u8s l).toArray (u8s_one l) (hs := hsz)) (fun _ => ?_)
  refine z_ ?_
  exact RQ.ret1 rfl (Res.cellAll tabOk rfl rfl rfl m0 hsz) fun w' hm => Turns.of (Y := Unit) (V := fun _ => .agg (u8s l).toArray) (L' := fun _ => [(rb, Obj.cells #[Value.slice (some ad) n n, .int .i64 ((k + 8 : Nat) : Int)] 134 (0, 0))]) (Lst := [(rb, Obj.cells #[Value.slice (some ad) n n, .int .i64 k] 134 (0, 0))]) () hm (Lr := [(b2, Obj.cells (u8s l).toArray 23 (0, 0)), (b3, Obj.cells (u8s l).toArray 23 (0, 0))]) (perm_of fun f => by (simp only [List.map_append, List.map_cons, List.map_nil, List.sum_append, List.sum_cons, List.sum_nil] <;> omega))
end Go.Proofs.YtfoeakgnkfcbjaaGreatDoor

/- wire: the reader's Bytes. -/
namespace Go.Proofs.YtfoeakgnkfcbjaaGreatDoor
attribute [local irreducible] Go.Vc.Run Go.Vc.RC Go.Vc.RQ Go.Vc.DR Go.Vc.DOp
open Go Go.Vc Go.Sha
theorem RBytes_ok (rb n k m : Nat) (ad : Addr) (hrb : ad.block ≠ rb) (hn : n ≤ 1000000) (hk : k + 4 + m ≤ n) (l4 l : List Nat) (h4 : l4.length = 4) (hb4 : ∀ x ∈ l4, x < 256) (hm : num8 l4 = m) (hl : l.length = m) (w : World) (hs : w.heap[rb]? = some (.cells #[.slice (some ad) n n, .int .i64 k] 134 (0, 0)))
    (hr4 : ∀ j u, (u8s l4)[j]? = some u → w.cell? (ad.add (k + j)) = some u) (hr : ∀ j u, (u8s l)[j]? = some u → w.cell? (ad.add (k + 4 + j)) = some u) :
    Turns Tryz.prog 46 [.pointer (some ⟨rb, 0, none⟩)] w [(rb, Obj.cells #[Value.slice (some ad) n n, .int .i64 k] 134 (0, 0))] (Y := {p : Value × Hp // Own 5 1 p.1 m (u8s l) p.2}) (fun y => y.1.1) (fun y => (rb, Obj.cells #[Value.slice (some ad) n n, .int .i64 ((k + 4 + m : Nat) : Int)] 134 (0, 0)) :: y.1.2) := by
  have hL : Has [(rb, Obj.cells #[Value.slice (some ad) n n, .int .i64 k] 134 (0, 0))] w := fun p hp => by rw [List.mem_singleton] at hp; subst hp; exact hs
  refine enter Tryz.func46 rfl (Mem.init (S0 := ([(rb, Obj.cells #[Value.slice (some ad) n n, .int .i64 k] 134 (0, 0))] : Hp).map (·.1)) hL (fun p hp => List.mem_map_of_mem hp) (by simp)) rfl ?_
  have hz : ([(rb, Obj.cells #[Value.slice (some ad) n n, .int .i64 k] 134 (0, 0))] : Hp).Perm ([(rb, Obj.cells #[Value.slice (some ad) n n, .int .i64 k] 134 (0, 0))] ++ []) := List.Perm.refl _
  have hS : ∀ j, (ad.add j).block ∉ ([(rb, Obj.cells #[Value.slice (some ad) n n, .int .i64 k] 134 (0, 0))] : Hp).map (·.1) := by
    intro j h
    have h' := List.mem_singleton.1 h
    exact hrb ((show (ad.add j).block = ad.block by first | rfl | (unfold Addr.add; split <;> rfl)).symm.trans h')
  refine z_ ?_
  refine Run.op1 (OpTo.callT Tryz.func44 hz (fun w' hm' => RNum_ok rb n k 4 ad hrb hn (by decide) (by omega) l4 h4 hb4 w' (hm'.has _ m0) (fun j u hj => hm'.fr.cell (hS _) (hr4 j u hj)))) ?_
  intro _
  rw [hm]
  refine z_ ?_
  refine Run.op1 (OpTo.cv Tryz.func76 (fun w' hm' => RLeft_calls rb n n (k + 4) (some ad) hn (by omega) w' (hm'.has _ m0))) (fun _ => ?_)
  refine z_ ?_
  have hz2 : ([(rb, Obj.cells #[Value.slice (some ad) n n, .int .i64 ((k + 4 : Nat) : Int)] 134 (0, 0))] ++ [] : Hp).Perm ([(rb, Obj.cells #[Value.slice (some ad) n n, .int .i64 ((k + 4 : Nat) : Int)] 134 (0, 0))] ++ []) := List.Perm.refl _
  refine Run.op1 (OpTo.callT Tryz.func77 hz2 (fun w' hm' => take_ok rb n (k + 4) m ad hn hk w' (hm'.has _ m0))) ?_
  intro _
  refine Run.op1 (OpTo.callMk Tryz.func82 rfl rfl rfl rfl rfl rfl (fun w' hm' => Clone_calls _ m l w' (SrcW.at _ m _ (u8s l) (by rw [u8s_len, hl, Nat.mul_one]) (by omega) (fun j u hj => ?_)) (by omega))) ?_
  · have hjl := (List.getElem?_eq_some_iff.1 hj).1
    rw [u8s_len, hl] at hjl
    rw [if_neg (by omega), Nat.mul_one, add_add]
    exact hm'.fr.cell (hS _) (hr j u hj)
  rintro ⟨⟨v7, bl7⟩, hown⟩
  dsimp only at hown ⊢
  refine z_ ?_
  exact RQ.ret1 rfl (Res.tmp rfl) fun w' hm => Turns.of (Y := {p : Value × Hp // Own 5 1 p.1 m (u8s l) p.2}) (V := fun y => y.1.1) (L' := fun y => (rb, Obj.cells #[Value.slice (some ad) n n, .int .i64 ((k + 4 + m : Nat) : Int)] 134 (0, 0)) :: y.1.2) (Lst := [(rb, Obj.cells #[Value.slice (some ad) n n, .int .i64 k] 134 (0, 0))]) ⟨(v7, bl7), hown⟩ hm (Lr := []) (perm_of fun f => by (simp only [List.map_append, List.map_cons, List.map_nil, List.sum_append, List.sum_cons, List.sum_nil] <;> omega))
end Go.Proofs.YtfoeakgnkfcbjaaGreatDoor

/- wire: the reader's Bytes and Hash, short. -/
namespace Go.Proofs.YtfoeakgnkfcbjaaGreatDoor
attribute [local irreducible] Go.Vc.Run Go.Vc.RC Go.Vc.RQ Go.Vc.DR Go.Vc.DOp
open Go Go.Vc Go.Sha
theorem RBytes_none (rb n c k : Nat) (a : Option Addr) (hn : n ≤ 1000000) (hk : k ≤ n) (hm : n - k < 4) (w : World) (hs : w.heap[rb]? = some (.cells #[.slice a n c, .int .i64 k] 134 (0, 0))) :
    Calls Tryz.prog 46 #[.pointer (some ⟨rb, 0, none⟩)] w fun e w' => e = .panicked shortP ∧ Fr [] w w' := by
  refine enter (vs := [.pointer (some ⟨rb, 0, none⟩)]) Tryz.func46 rfl (Mem.nil w []) rfl ?_
  have hc1 : w.cell? ⟨rb, 1, none⟩ = some (.int .i64 k) := by rw [cell_of_row w rb 1 _ _ _ hs]; rfl
  refine z_ ?_
  refine Run.a (vlo hc1) ?_
  refine z_ ?_
  refine Run.op1 (OpTo.callP (Y := Empty) (Z := Unit) (V := fun y => y.elim) (L' := fun y => y.elim) (C := fun _ => shortP) (Lp := fun _ => []) Tryz.func44 (fun w' hm' => (RNum_short rb n c k 4 a hn hk (by decide) hm w' (hm'.old hs)).mono ?_) (fun _ => ?_)) (fun y => y.elim)
  · rintro e w'' ⟨rfl, hf⟩
    exact .inr ⟨(), rfl, hm'.ext hf⟩
  · repeat first | refine RQ.thenPanic ?_ | refine RQ.blockPanic ?_
    exact RQ.panic fun w' hm => ⟨rfl, hm.fr⟩
end Go.Proofs.YtfoeakgnkfcbjaaGreatDoor
end
