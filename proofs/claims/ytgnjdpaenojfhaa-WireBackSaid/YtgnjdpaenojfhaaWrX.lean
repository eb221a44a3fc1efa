/- wire: the reference's Get. -/
import Derived.Test.YtgnjdpaenojfhaaWrT
set_option linter.unusedSimpArgs false
set_option linter.unusedVariables false
namespace Go.Sha
theorem num8_drop {l : List Nat} {p x : Nat} (h : l[p]? = some x) : num8 (l.drop p) = x + 256 * num8 (l.drop (p + 1)) := by
  have hp := (List.getElem?_eq_some_iff.1 h)
  rw [List.drop_eq_getElem_cons hp.1, hp.2]
  rfl
end Go.Sha
namespace Go.Proofs.Ytgnjdpaenojfhaa
attribute [local irreducible] Go.Vc.Run Go.Vc.RC Go.Vc.RQ Go.Vc.DR Go.Vc.DOp
open Go Go.Vc Go.Sha
set_option maxRecDepth 10000 in set_option maxHeartbeats 4000000 in
theorem Get_calls (l : List Nat) (hb : ∀ x ∈ l, x < 256) (k m : Nat) (hm : m ≤ 7) (hk : k + m ≤ l.length) (hll : l.length ≤ 1000000) (v : Value) (w : World) (hs : SrcW w 1 v l.length (u8s l)) :
    Gives Try.prog 19 [v, .int .i64 k, .int .i64 m] (.int .i64 (num8 ((l.drop k).take m) : Nat)) w := by
  refine enter Try.func19 rfl (Mem.nil w []) rfl ?_
  obtain ⟨la, lc, rfl, hlc⟩ := hs.shape
  obtain ⟨bs, hbs⟩ : ∃ bs, bs = (l.drop k).take m := ⟨_, rfl⟩
  have hbl : bs.length = m := by rw [hbs, List.length_take, List.length_drop]; omega
  have hbb : ∀ x ∈ bs, x < 256 := fun x hx => by rw [hbs] at hx; exact hb x (List.mem_of_mem_drop (List.mem_of_mem_take hx))
  rw [← hbs]
  refine z_ ?_
  refine RC.up m (D := Unit) (fun _ _ => True) (fun j _ => [(8, .int .i64 ((m : Int) - 1 - j)), (7, .int .i64 (num8 (bs.drop (m - j)) : Nat)), (2, .int .i64 m), (1, .int .i64 k), (0, .slice la l.length lc)]) (fun _ _ => []) 0 () (Nat.zero_le _) trivial ⟨?_, ?_, rfl, rfl, rfl, trivial⟩ (List.Sublist.refl _) ?_
  · exact congrArg (fun z => some (Value.int .i64 z)) (by omega)
  · rw [Nat.sub_zero, List.drop_of_length_le (by omega)]; rfl
  intro j _ hj _
  refine z_ ?_
  (repeat refine RC.seq ?_); refine RC.wh rfl (fun h => RQ.next ?_) (fun h => ?_)
  · have hj' : j < m := by have := of_decide_eq_true h; omega
    clear h
    obtain ⟨ad, c', hv', hc', hcl, hr⟩ := hs.pos (by omega)
    cases hv'
    obtain ⟨x, hx⟩ : ∃ x, bs[m - 1 - j]? = some x := ⟨_, List.getElem?_eq_getElem (by omega)⟩
    have hx8 := hbb x (List.mem_of_getElem? hx)
    have hlx : l[k + (m - 1 - j)]? = some x := by
      rw [hbs, List.getElem?_take, if_pos (by omega), List.getElem?_drop] at hx
      exact hx
    have hcx : w.cell? (ad.add (k + (m - 1 - j))) = some (.int .u8 x) := hr _ _ (by unfold u8s; rw [List.getElem?_map, hlx]; rfl)
    have hnd := num8_drop hx
    rw [show m - 1 - j + 1 = m - j by omega] at hnd
    have hlt := num8_lt (bs.drop (m - j)) (fun y hy => hbb y (List.mem_of_mem_drop hy))
    rw [List.length_drop, hbl, show m - (m - j) = j by omega] at hlt
    have hp : 2 ^ (8 * j) ≤ 2 ^ 48 := Nat.pow_le_pow_right (by decide) (by omega)
    generalize num8 (bs.drop (m - j)) = acc at hnd hlt ⊢
    have hacc : acc < 2 ^ 48 := Nat.lt_of_lt_of_le hlt hp
    have hjl : k + (m - 1 - j) < l.length := by omega
    refine z_ ?_
    refine Run.a (vix (k + (m - 1 - j)) hjl (ad.add (k + (m - 1 - j))) (ha := by show ad.add (_ * 1) = _; rw [Nat.mul_one])) ?_
    refine Run.a (vlo hcx) ?_
    refine z_ ?_
    have hv : IntKind.i64.wrap ((BitVec.ofInt IntKind.i64.bits (IntKind.i64.wrap ((acc : Int) * 2 ^ min (8 : Int).toNat IntKind.i64.bits)) ||| BitVec.ofInt IntKind.i64.bits (x : Int)).toNat : Nat) = ((num8 (bs.drop (m - (j + 1))) : Nat) : Int) := by
      have e2 : (acc : Int) * 2 ^ min (8 : Int).toNat IntKind.i64.bits = ((acc * 2 ^ 8 : Nat) : Int) := by
        rw [show min (8 : Int).toNat IntKind.i64.bits = 8 from rfl]; push_cast; rfl
      have e3 : IntKind.i64.wrap ((acc * 2 ^ 8 : Nat) : Int) = ((acc * 2 ^ 8 : Nat) : Int) := wrap_in (by dsimp only [inK]; omega)
      rw [e2, e3, show m - (j + 1) = m - 1 - j by omega, hnd]
      have eb : (BitVec.ofInt IntKind.i64.bits ((acc * 2 ^ 8 : Nat) : Int) ||| BitVec.ofInt IntKind.i64.bits ((x : Nat) : Int)).toNat = x + 256 * acc := by
        rw [BitVec.toNat_or, BitVec.ofInt_natCast, BitVec.ofInt_natCast, BitVec.toNat_ofNat, BitVec.toNat_ofNat, show IntKind.i64.bits = 64 from rfl, Nat.mod_eq_of_lt (by omega), Nat.mod_eq_of_lt (by omega), or_shift acc x (2 ^ 8) 8 rfl hx8]
        omega
      rw [eb]
      exact wrap_in (by dsimp only [inK]; omega)
    exact RQ.up (j + 1) () (Nat.lt_succ_self _) hj' trivial ⟨congrArg (fun z => some (Value.int .i64 z)) (by omega), congrArg (fun z => some (Value.int .i64 z)) hv, rfl, rfl, rfl, trivial⟩ (List.Sublist.refl _)
  · have hj' : j = m := by have := of_decide_eq_false h; omega
    subst hj'
    rw [Nat.sub_self, List.drop_zero]
    refine z_ ?_
    exact RQ.ret1 rfl (Res.tmp rfl) fun w' hm => ⟨rfl, hm.fr⟩
theorem RBytes_over2 (rb n k m : Nat) (ad : Addr) (hrb : ad.block ≠ rb) (hn : n ≤ 1000000) (hk : k + 4 ≤ n) (hov : n < k + 4 + m) (l4 : List Nat) (h4 : l4.length = 4) (hb4 : ∀ x ∈ l4, x < 256) (hm : num8 l4 = m) (w : World) (hs : w.heap[rb]? = some (.cells #[.slice (some ad) n n, .int .i64 k] 61 (0, 0)))
    (hr4 : ∀ j u, (u8s l4)[j]? = some u → w.cell? (ad.add (k + j)) = some u) :
    Calls Try.prog 17 #[.pointer (some ⟨rb, 0, none⟩)] w fun e w' => e = .panicked shortP ∧ Fr [] w w' := by
  have hL : Has [(rb, Obj.cells #[Value.slice (some ad) n n, .int .i64 k] 61 (0, 0))] w := fun p hp => by rw [List.mem_singleton] at hp; subst hp; exact hs
  refine enter (vs := [.pointer (some ⟨rb, 0, none⟩)]) Try.func17 rfl (Mem.init (S0 := [rb]) hL (fun p hp => by rw [List.mem_singleton] at hp; subst hp; exact List.mem_singleton.2 rfl) (by simp)) rfl ?_
  have hz : ([(rb, Obj.cells #[Value.slice (some ad) n n, .int .i64 k] 61 (0, 0))] : Hp).Perm ([(rb, Obj.cells #[Value.slice (some ad) n n, .int .i64 k] 61 (0, 0))] ++ []) := List.Perm.refl _
  have hS : ∀ j, (ad.add j).block ∉ [rb] := by
    intro j h
    have h' := List.mem_singleton.1 h
    exact hrb ((show (ad.add j).block = ad.block by first | rfl | (unfold Addr.add; split <;> rfl)).symm.trans h')
  refine z_ ?_
  refine Run.op1 (OpTo.callT Try.func18 hz (fun w' hm' => RNum_ok rb n k 4 ad hrb hn (by decide) (by omega) l4 h4 hb4 w' (hm'.has _ m0) (fun j u hj => hm'.fr.cell (hS _) (hr4 j u hj)))) ?_
  intro _
  rw [hm]
  refine z_ ?_
  refine Run.op1 (OpTo.cv Try.func15 (fun w' hm' => RLeft_calls rb n n (k + 4) (some ad) hn (by omega) w' (hm'.has _ m0))) (fun _ => ?_)
  refine z_ ?_
  refine Run.op1 (os1 #[Value.slice (some ad) n n, .int .i64 k]) (fun _ => ?_)
  refine z_ ?_
  refine Run.a (vbs #[]) ?_
  refine Run.a (Val.mkI tabOk rfl rfl rfl rfl) ?_
  refine Run.panic (v := .agg #[]) (pt := 58) ?_
  repeat first | refine RQ.thenPanic ?_ | refine RQ.blockPanic ?_
  exact RQ.panic fun w' hm => ⟨rfl, Mem.frNil (Lst := [(rb, Obj.cells #[Value.slice (some ad) n n, .int .i64 k] 61 (0, 0))]) hm (fun p hp => by rw [List.mem_singleton] at hp; subst hp; exact (by repeat (first | exact List.mem_cons_self | apply List.mem_cons_of_mem | apply List.mem_append_right))) hL⟩
theorem RNum_bad (rb n c k : Nat) (a : Option Addr) (m : Int) (hm : m < 1 ∨ 7 < m) (w : World) (hs : w.heap[rb]? = some (.cells #[.slice a n c, .int .i64 k] 61 (0, 0))) :
    Calls Try.prog 18 #[.pointer (some ⟨rb, 0, none⟩), .int .i64 m] w fun e w' => e = .panicked shortP ∧ Fr [] w w' := by
  refine enter (vs := [.pointer (some ⟨rb, 0, none⟩), .int .i64 m]) Try.func18 rfl (Mem.nil w []) rfl ?_
  rcases hm with hm | hm
  all_goals
    refine z_ ?_
    refine Run.a (vbs #[]) ?_
    refine Run.a (Val.mkI tabOk rfl rfl rfl rfl) ?_
    refine Run.panic (v := .agg #[]) (pt := 58) ?_
    repeat first | refine RQ.thenPanic ?_ | refine RQ.blockPanic ?_
    exact RQ.panic fun w' hm => ⟨rfl, hm.fr⟩
end Go.Proofs.Ytgnjdpaenojfhaa
