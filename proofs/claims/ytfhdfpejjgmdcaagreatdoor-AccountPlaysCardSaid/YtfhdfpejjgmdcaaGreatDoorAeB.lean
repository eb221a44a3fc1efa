/- account: Copy, Prove. -/
import Derived.Test.YtfhdfpejjgmdcaaGreatDoorAeA
set_option linter.unusedSimpArgs false
set_option linter.unusedVariables false
namespace Go.Vc
open Go
theorem Val.sliceNull {P : Program} {n : Nat} {w0 : World} {S0 : List Nat} {E : Env} {L : Hp} {o : Oper} {T : List (Nat × TI)} {t : Nat} {ti : TI} (hT : TabOk P T) {x y : Operand} {a : Option Addr} {m c el t2 : Nat} (ho : o.op = .binOp .eql t x y t2) (ht : tiGet T t = some ti) (hd : ti.desc = .slice el) (hx : lk E x = some (.slice a m c)) (hy : lk E y = some (.slice none 0 0)) :
    Val P n w0 S0 E L o (.bool a.isNone) := by
  intro ac w hs _
  have h2 := (hT _ _ ht).1
  rw [hd] at h2
  have hg : (eqGuard .eql t x y (.slice a m c) (.slice none 0 0)).run P w = .ok () w := by simp [eqGuard]
  simp [execOp, ho, hs.eval hx, hs.eval hy, hg, Lib.run_eql_slice_nil w t el a m c 0 0 h2]
end Go.Vc
namespace Go.Proofs.YtfhdfpejjgmdcaaGreatDoor
attribute [local irreducible] Go.Vc.Run Go.Vc.RC Go.Vc.RQ Go.Vc.DR Go.Vc.DOp
open Go Go.Vc Go.Sha
set_option maxRecDepth 10000 in set_option maxHeartbeats 4000000 in
theorem AMClone_calls {mb clock : Nat} {es : List (MxE Int)} (w : World) (hmb : w.heap[mb]? = some (mxO (Value.int .i64) es clock)) :
    NewOf Tryz.prog 49 [.map (some mb)] w (fun b => .map (some b)) (mxO (Value.int .i64) es clock) := by
  refine enter Tryz.func49 rfl (Mem.nil w []) rfl ?_
  refine z_ ?_
  refine Run.a (Val.mapNil Tryz.underlying68 rfl rfl rfl) ?_
  refine z_ ?_
  refine Run.a (Val.mkIm Tryz.underlying68 rfl rfl) ?_
  refine Run.nw (New.cloneX Tryz.func73 rfl rfl rfl rfl rfl rfl (fun w' hm => hm.old hmb)) ?_
  intro b
  refine Run.a (Val.assertM Tryz.underlying68 rfl rfl) ?_
  refine z_ ?_
  exact RQ.ret1 rfl (Res.tmp rfl) fun w' hm => NewOf.of (V := fun b => .map (some b)) hm m0
set_option maxRecDepth 10000 in set_option maxHeartbeats 4000000 in
theorem CloneOut_calls (l : List OuD) (hl9 : l.length ≤ 16) (v : Value) (w : World) (hs : SrcW w 9 v l.length (rws OuD.c l)) :
    Makes Tryz.prog 51 [v] w 66 9 l.length (rws OuD.c l) := by
  refine enter Tryz.func51 rfl (Mem.nil w []) rfl ?_
  obtain ⟨va, vc, rfl, hvc⟩ := hs.shape
  (repeat refine RC.seq ?_); refine RC.region ?_
  refine Run.a (Val.of rfl) ?_
  refine Run.nil (RQ.next ?_)
  have hsl := hs.len
  have hsrc := fun L => hs.src (L := L)
  cases va with
  | none =>
    (repeat refine RC.seq ?_); refine RC.region ?_
    refine Run.a (Val.of rfl) ?_
    refine Run.a (Val.sliceNull tabOk rfl rfl rfl rfl rfl) ?_
    refine Run.nil (RQ.next ?_)
    (repeat refine RC.seq ?_); refine RC.condT rfl rfl ?_
    (repeat refine RC.seq ?_); refine RC.region ?_
    refine Run.a (Val.of rfl) ?_
    refine Run.nil (RQ.next ?_)
    refine RC.ret ?_; (repeat first | refine RQ.thenRet ?_ | refine RQ.blockRet ?_)
    have hz : l.length = 0 := Nat.eq_zero_of_not_pos fun h0 => by obtain ⟨a, c, hv, _⟩ := hs.pos h0; cases hv
    have hnil : l = [] := List.eq_nil_of_length_eq_zero hz
    subst hnil
    exact RQ.ret1 rfl (Res.tmp rfl) fun w' hm => Makes.of (bl := []) Own.nil hm
  | some a =>
    (repeat refine RC.seq ?_); refine RC.region ?_
    refine Run.a (Val.of rfl) ?_
    refine Run.a (Val.sliceNull tabOk rfl rfl rfl rfl rfl) ?_
    refine Run.nil (RQ.next ?_)
    (repeat refine RC.seq ?_); refine RC.condF rfl rfl (RC.skip (RQ.next ?_))
    (repeat refine RC.seq ?_); refine RC.region ?_
    refine Run.nw (New.buildSlice tabOk (parts := []) (cells := #[]) rfl rfl rfl rfl rfl rfl (fillS_nil _ _)) ?_
    intro b5
    refine Run.a (Val.of rfl) ?_
    have hown : Own 66 9 (.slice (some ⟨b5, 0, none⟩) 0 0) 0 [] [(b5, .cells #[] 66 (0, 0))] := Own.row b5 0 0 [] [] rfl rfl (Nat.le_refl _) (by unfold maxLen; decide)
    refine Run.op rfl (OpTo.append tabOk hown (hsrc _) rfl rfl rfl rfl rfl rfl rfl rfl rfl (List.Perm.refl _) (rws_one' fun a _ => a.one) (by unfold maxLen; omega) (by simp only [ti66]; omega)) ?_
    rintro ⟨⟨v9, bl9⟩, hown9⟩
    dsimp only at hown9 ⊢
    rw [Nat.zero_add, List.nil_append] at hown9
    refine Run.a (Val.of rfl) ?_
    refine Run.nil (RQ.next ?_)
    refine RC.ret ?_; (repeat first | refine RQ.thenRet ?_ | refine RQ.blockRet ?_)
    exact RQ.ret1 rfl (Res.tmp rfl) fun w' hm => Makes.of hown9 hm
section
variable {ab : Nat} (y : AlP ab)
set_option maxRecDepth 10000 in set_option maxHeartbeats 4000000 in
theorem ACopy_calls (w : World) (hw : Has y.L w) : Turns Tryz.prog 20 [.pointer (some ⟨ab, 0, none⟩)] w [] (Y := {z : (ab : Nat) × AlP ab // z.2.s = y.s}) (fun z => .pointer (some ⟨z.1.1, 0, none⟩)) (fun z => z.1.2.L) := by
  refine enter Tryz.func20 rfl (Mem.nil w []) rfl ?_
  have hc0 := y.cell hw 0
  have hc1 := y.cell hw 1
  have hc2 := y.cell hw 2
  have hc3 := y.cell hw 3
  change w.cell? ⟨ab, 0, none⟩ = some (.int .i64 y.s.side) at hc0
  change w.cell? ⟨ab, 1, none⟩ = some (.map (some y.kb)) at hc1
  change w.cell? ⟨ab, 2, none⟩ = some (.pointer (some ⟨y.tb, 0, none⟩)) at hc2
  change w.cell? ⟨ab, 3, none⟩ = some y.vO at hc3
  have hmb := y.map hw
  have htr := y.tree hw
  have hso := y.hO.srcW (w := w) fun q hq => hw q (List.mem_cons_of_mem _ (List.mem_cons_of_mem _ (List.mem_append_right _ hq)))
  have hol := y.ok.ol
  obtain ⟨aO, cO, evO, hcO⟩ := y.hO.shape
  rw [evO] at hc3 hso
  refine z_ ?_
  (repeat refine RC.seq ?_); refine RC.drawS mixed (N := 22) rfl ?_
  refine dt 0 ?_
  refine dt 1 ?_
  refine dt 2 ?_
  refine DR.t 3 rfl (vlo hc0) ?_
  refine dt 4 ?_
  refine dt 5 ?_
  refine dt 6 ?_
  refine DR.t 7 rfl (vlo hc1) ?_
  refine dt 9 ?_
  refine dt 10 ?_
  refine dt 11 ?_
  refine DR.t 12 rfl (vlo hc2) ?_
  refine dt 14 ?_
  refine dt 15 ?_
  refine dt 16 ?_
  refine DR.t 17 rfl (vlo hc3) ?_
  refine DR.c 8 (DOp.op1 rfl (OpTo.callNew Tryz.func49 rfl rfl rfl rfl rfl rfl (fun w' hm => AMClone_calls w' (hm.old hmb))) ?_)
  intro k2
  have hz0 : ([(k2, mxO (Value.int .i64) y.es y.clock)] : Hp).Perm ([] ++ [(k2, mxO (Value.int .i64) y.es y.clock)]) := List.Perm.refl _
  refine DR.c 13 (DOp.op1 rfl (OpTo.callT Tryz.func50 hz0 (fun w' hm => TCopy_calls y.x w' (htr.fr hm.fr))) ?_)
  rintro ⟨t2, m2⟩
  dsimp only
  refine DR.c 18 (DOp.op1 rfl (OpTo.callMk Tryz.func51 rfl rfl rfl rfl rfl rfl (fun w' hm => CloneOut_calls y.s.out hol _ w' (hso.fr hm.fr))) ?_)
  rintro ⟨⟨v4, b4⟩, hO4⟩
  dsimp only at hO4 ⊢
  obtain ⟨a4, c4, rfl, hc4⟩ := hO4.shape
  refine DR.t 19 rfl (vbs #[.int .i64 y.s.side, .map (some k2), .pointer (some ⟨t2, 0, none⟩), .slice a4 y.s.out.length c4]) ?_
  refine DR.c 20 ?_
  refine DOp.op1 rfl (OpTo.new rfl rfl (nbx)) ?_
  intro ab2
  refine dt 21 ?_
  refine DR.done (by kernel_rfl) ?_
  refine z_ ?_
  refine RQ.ret1 rfl (Res.tmp rfl) fun w' hm => Turns.of (Y := {z : (ab : Nat) × AlP ab // z.2.s = y.s}) (V := fun z => .pointer (some ⟨z.1.1, 0, none⟩)) (L' := fun z => z.1.2.L) (Lst := []) ⟨⟨ab2, ⟨t2, m2, k2, ⟨y.x.es, y.x.clock, y.x.ok⟩, y.es, y.clock, .slice a4 y.s.out.length c4, b4, y.s, y.mok, y.he, y.rp, y.ok, hO4⟩⟩, rfl⟩ hm (Lr := []) ?_
  unfold AlP.L AlP.row TrD.L
  exact (perm_of fun f => by (simp only [List.map_append, List.map_cons, List.map_nil, List.sum_append, List.sum_cons, List.sum_nil] <;> omega))
set_option maxRecDepth 10000 in set_option maxHeartbeats 4000000 in
theorem AProve_calls (i : Int) (w : World) (hw : Has y.L w) : Gives Tryz.prog 22 [.pointer (some ⟨ab, 0, none⟩), .int .i64 i] (.tuple #[.agg (u8s (prfT (nodeF (acF y.s.acs)) i)).toArray, .bool (inB i)]) w := by
  refine enter Tryz.func22 rfl (Mem.nil w []) rfl ?_
  have hc := y.cell hw 2
  change w.cell? ⟨ab, 2, none⟩ = some (.pointer (some ⟨y.tb, 0, none⟩)) at hc
  have ct := fun w' hw' => TProve_calls y.x i w' hw'
  rw [rep_prf y.rp] at ct
  have hpl := prfT_len (fun q j => (nodeF_8 (acF_ok y.s.acs) q j).1) i
  generalize prfT (nodeF (acF y.s.acs)) i = R at ct hpl ⊢
  have sR : (u8s R).toArray.size = 128 := by rw [List.size_toArray, u8s_len, hpl]
  refine z_ ?_
  refine Run.nw nal ?_
  intro b4
  refine z_ ?_
  refine Run.a (vlo hc) ?_
  refine z_ ?_
  refine Run.op1 (OpTo.cv Tryz.func55 (fun w' hm => ct w' (fun q hq => hm.old (y.tree hw q hq)))) (fun _ => ?_)
  refine z_ ?_
  refine Run.op1 (osa (u8s R).toArray (u8s_one _) (hs := sR) (hf := by kernel_rfl)) (fun _ => ?_)
  refine z_ ?_
  exact RQ.ret2 rfl (Res.cellAll tabOk rfl rfl rfl m0 sR) (Res.tmp rfl) fun w' hm => ⟨rfl, hm.fr⟩
end
end Go.Proofs.YtfhdfpejjgmdcaaGreatDoor
