/- sparse: the reference: ProveLeaf, CheckLeaf. -/
import Derived.Test.YtaabinhpagbajaaDoorSpI
set_option linter.unusedSimpArgs false
set_option linter.unusedVariables false
namespace Go.Proofs.YtaabinhpagbajaaDoor
attribute [local irreducible] Go.Vc.Run Go.Vc.RC Go.Vc.RQ Go.Vc.DR Go.Vc.DOp
open Go Go.Vc Go.Sha
theorem sib_room {i k : Nat} (hi : i < 65536) (hk : k < 16) : (sib i k + 1) * 2 ^ k ≤ 65536 := by
  unfold sib
  have e : 2 ^ k * 2 ^ (16 - k) = 65536 := by rw [← Nat.pow_add, show k + (16 - k) = 16 by omega]
  have h1 : i / 2 ^ k < 2 ^ (16 - k) := by
    rw [Nat.div_lt_iff_lt_mul (Nat.pow_pos (by decide)), Nat.mul_comm, e]; exact hi
  have h2 : i / 2 ^ k ^^^ 1 < 2 ^ (16 - k) := Nat.xor_lt_two_pow h1 (Nat.one_lt_two_pow (by omega))
  have h3 : (i / 2 ^ k ^^^ 1) + 1 ≤ 2 ^ (16 - k) := h2
  have := Nat.mul_le_mul_right (2 ^ k) h3
  rwa [Nat.mul_comm (2 ^ (16 - k)), e] at this
set_option maxRecDepth 10000 in set_option maxHeartbeats 4000000 in
theorem ProveLeaf_calls (l : Lvs) (ok : LvOk l) (mb : Nat) (i : Int) (w : World) (hw : LvW 39 w mb l) :
    Gives Tryd.prog 11 [.pointer (some ⟨mb, 0, none⟩), .int .i64 i] (.tuple #[.agg (u8s (prfT (nodeF (lfF l)) i)).toArray, .bool (inB i)]) w := by
  refine enter Tryd.func11 rfl (Mem.nil w []) rfl ?_
  have h8 : ∀ q j, (nodeF (lfF l) q j).length = 8 := fun q j => (nodeF_8 (lfF_ok ok) q j).1
  have hlp := prfT_len h8 i
  have hsp : (u8s (prfT (nodeF (lfF l)) i)).toArray.size = 128 := by rw [List.size_toArray, u8s_len, hlp]
  have hnd := fun j q => Node_calls l ok mb q j
  generalize nodeF (lfF l) = nf at h8 hlp hsp hnd ⊢
  refine z_ ?_
  refine Run.nw nal ?_
  intro b4
  refine z_ ?_
  refine Run.nw nal ?_
  intro b6
  by_cases h0 : 0 ≤ i
  case neg =>
    have e1 : inB i = false := decide_eq_false (by omega)
    have e2 : prfT nf i = List.replicate 128 0 := by unfold prfT; rw [e1]; rfl
    rw [e1]
    rw [e2] at hsp ⊢
    refine z_ ?_
    refine Run.op1 (osa (arr := (u8s (List.replicate 128 0)).toArray) (u8s (List.replicate 128 0)).toArray (u8s_one _) (hL := p1) (hs := hsp) (hf := by kernel_rfl)) (fun _ => ?_)
    refine z_ ?_
    exact RQ.ret2 rfl (Res.cellAll tabOk rfl rfl rfl m0 hsp) (Res.tmp rfl) fun w' hm => ⟨rfl, hm.fr⟩
  by_cases hi9 : i < 65536
  case neg =>
    have e1 : inB i = false := decide_eq_false (by omega)
    have e2 : prfT nf i = List.replicate 128 0 := by unfold prfT; rw [e1]; rfl
    rw [e1]
    rw [e2] at hsp ⊢
    refine z_ ?_
    refine Run.op1 (osa (arr := (u8s (List.replicate 128 0)).toArray) (u8s (List.replicate 128 0)).toArray (u8s_one _) (hL := p1) (hs := hsp) (hf := by kernel_rfl)) (fun _ => ?_)
    refine z_ ?_
    exact RQ.ret2 rfl (Res.cellAll tabOk rfl rfl rfl m0 hsp) (Res.tmp rfl) fun w' hm => ⟨rfl, hm.fr⟩
  refine z_ ?_
  obtain ⟨i, rfl⟩ := Int.eq_ofNat_of_zero_le h0
  have hi16 : i < 65536 := by omega
  have e1 : inB (i : Int) = true := decide_eq_true (by omega)
  have e2 : prfT nf (i : Int) = rowOf (fun k => nf k (sib i k)) 16 := by unfold prfT; rw [e1]; rfl
  rw [e1]
  rw [e2] at hsp ⊢
  obtain ⟨f, hf⟩ : ∃ f : Nat → List Nat, f = fun k => nf k (sib i k) := ⟨_, rfl⟩
  have hf8 : ∀ k, (f k).length = 8 := fun k => by rw [hf]; exact h8 _ _
  rw [← hf] at hsp ⊢
  refine RC.up 16 (D := Unit) (fun _ _ => True) (fun k _ => [(7, .int .i64 k), (6, .pointer (some ⟨b6, 0, none⟩)), (4, .pointer (some ⟨b4, 0, none⟩)), (1, .int .i64 i), (0, .pointer (some ⟨mb, 0, none⟩))]) (fun k _ => [(b6, Obj.cells (u8s (rowOf f k ++ List.replicate ((16 - k) * 8) 0)).toArray 30 (0, 0)), (b4, Obj.cells (u8s (List.replicate 128 0)).toArray 30 (0, 0))]) 0 () (Nat.zero_le _) trivial ⟨rfl, rfl, rfl, rfl, rfl, trivial⟩ (List.Sublist.refl _) ?_
  intro k _ hk _
  (repeat refine RC.seq ?_); refine RC.region ?_
  refine Run.a (Val.of rfl) ?_
  refine Run.a (Val.of rfl) ?_
  refine Run.nil (RQ.next ?_)
  (repeat refine RC.seq ?_); refine RC.wh rfl (fun h => RQ.next ?_) (fun h => ?_)
  · have hk' : k < 16 := by have := of_decide_eq_true h; omega
    clear h
    have hrl := rowOf_len hf8 k
    have hsk : (u8s (f k)).toArray.size = 8 := by rw [List.size_toArray, u8s_len, hf8]
    have hwr := wr_next (rowOf f k) (f k) ((16 - (k + 1)) * 8)
    rw [hf8, hrl, show 8 + (16 - (k + 1)) * 8 = (16 - k) * 8 by omega] at hwr
    have hv := shr_nat (a := i) (k := k) (by omega)
    have hik : i / 2 ^ k < 65536 := Nat.lt_of_le_of_lt (Nat.div_le_self _ _) hi16
    have hx := xor1 hik
    have hrm := sib_room hi16 hk'
    have c1 := fun w' hw' => hnd (sib i k) k (by omega) hrm w' hw'
    rw [show nf k (sib i k) = f k from by rw [hf]] at c1
    have hsi : i / 2 ^ k ^^^ 1 = sib i k := rfl
    have hsb : sib i k < 65536 := Nat.xor_lt_two_pow (n := 16) hik (by decide)
    rw [hsi] at hx
    generalize sib i k = sb at hrm c1 hx hsb
    have hpw : sb * 2 ^ k ≤ 65536 := Nat.le_trans (Nat.mul_le_mul_right _ (Nat.le_succ _)) hrm
    have hsh : IntKind.i64.wrap ((sb : Int) * 2 ^ min (k : Int).toNat IntKind.i64.bits) = ((sb * 2 ^ k : Nat) : Int) := by
      have h1 : min (k : Int).toNat IntKind.i64.bits = k := by rw [Int.toNat_natCast]; exact Nat.min_eq_left (by show k ≤ 64; omega)
      have h3 : (sb : Int) * 2 ^ k = ((sb * 2 ^ k : Nat) : Int) := by rw [Int.natCast_mul, Int.natCast_pow]; rfl
      rw [h1, h3]
      exact wrap_in (by dsimp only [inK]; omega)
    generalize i / 2 ^ k = ik at hv hx hik
    obtain ⟨SB, hSB⟩ : ∃ SB, SB = sb * 2 ^ k := ⟨_, rfl⟩
    clear hsi hf hrm hnd
    rw [← hSB] at c1 hsh hpw
    clear hSB
    refine z_ ?_
    rw [hv]
    refine z_ ?_
    rw [hx, hsh]
    refine Run.op1 (OpTo.cv Tryd.func26 (fun w' hm => c1 w' (hw.fr hm.fr))) (fun _ => ?_)
    refine Run.a (via k (k * 8) (ha := by show 0 + k * 8 = k * 8; omega) (hj := hk')) ?_
    refine Run.op1 (ost (ti := ti29) (L' := [(b4, Obj.cells (u8s (List.replicate 128 0)).toArray 30 (0, 0))]) (v := .agg (u8s (f k)).toArray) (arr := (u8s (rowOf f k ++ List.replicate ((16 - k) * 8) 0)).toArray) (u8s (rowOf f (k + 1) ++ List.replicate ((16 - (k + 1)) * 8) 0)).toArray (by simpa [Value.cells, rowOf] using hwr) (by rw [List.size_toArray, u8s_len, List.length_append, hrl, List.length_replicate]; show k * 8 + 8 ≤ k * 8 + (16 - k) * 8; omega) (fun u hu => u8s_one (f k) u (by simpa [Value.cells] using hu)) (hs := hsk)) (fun _ => ?_)
    refine z_ ?_
    exact RQ.upS (k + 1) () (Nat.lt_succ_self _) hk' trivial ⟨rfl, rfl, rfl, rfl, rfl, trivial⟩ (List.Perm.refl _) (List.Sublist.refl _)
  · have hk' : k = 16 := by have := of_decide_eq_false h; omega
    subst hk'
    rw [show (16 - 16) * 8 = 0 from rfl, List.replicate_zero, List.append_nil]
    generalize rowOf f 16 = R at hsp ⊢
    clear hlp
    (repeat refine RQ.thenExit ?_); refine RQ.blockHere ?_
    refine RQ.next ?_
    (repeat refine RC.seq ?_); refine RC.region ?_
    refine Run.a (vla (arr := (u8s R).toArray) (hv := hsp)) ?_
    refine Run.op1 (osa (arr := (u8s (List.replicate 128 0)).toArray) (u8s R).toArray (u8s_one _) (hL := p1) (hs := hsp) (hf := by kernel_rfl)) (fun _ => ?_)
    refine z_ ?_
    exact RQ.ret2 rfl (Res.cellAll tabOk rfl rfl rfl m0 hsp) (Res.tmp rfl) fun w' hm => ⟨rfl, hm.fr⟩
set_option maxRecDepth 10000 in set_option maxHeartbeats 4000000 in
theorem CheckLeaf_calls (root : List Nat) (hr : H8 root) (i : Int) (h : List Nat) (hh : H8 h) (p : List Nat) (hpl : p.length = 128) (hpb : ∀ x ∈ p, x < 256) (w : World) :
    Gives Tryd.prog 18 [.agg (u8s root).toArray, .int .i64 i, .agg (u8s h).toArray, .agg (u8s p).toArray] (.bool (chkT root i h p)) w := by
  refine enter Tryd.func18 rfl (Mem.nil w []) rfl ?_
  have sp : (u8s p).toArray.size = 128 := by rw [List.size_toArray, u8s_len, hpl]
  have sr : (u8s root).toArray.size = 8 := by rw [List.size_toArray, u8s_len, hr.1]
  have sh : (u8s h).toArray.size = 8 := by rw [List.size_toArray, u8s_len, hh.1]
  refine z_ ?_
  refine Run.nw nbx ?_
  intro b4
  refine Run.nw nbx ?_
  intro b6
  refine Run.nw nbx ?_
  intro b7
  unfold chkT inB
  by_cases h0 : 0 ≤ i
  case neg =>
    rw [decide_eq_false (fun h => h0 h.1)]
    refine z_ ?_
    exact RQ.ret1 rfl (Res.tmp rfl) fun w' hm => ⟨rfl, hm.fr⟩
  by_cases hi9 : i < 65536
  case neg =>
    rw [decide_eq_false (fun h => hi9 h.2)]
    refine z_ ?_
    exact RQ.ret1 rfl (Res.tmp rfl) fun w' hm => ⟨rfl, hm.fr⟩
  refine z_ ?_
  refine Run.a (vla (hv := sh)) ?_
  refine Run.nw nal ?_
  intro b9
  refine Run.op1 (osa (u8s h).toArray (u8s_one _) (hs := sh)) (fun _ => ?_)
  refine z_ ?_
  obtain ⟨i, rfl⟩ := Int.eq_ofNat_of_zero_le h0
  have hi16 : i < 65536 := by omega
  rw [decide_eq_true ⟨h0, hi9⟩, Int.toNat_natCast]
  refine RC.up 16 (D := Unit) (fun _ _ => True) (fun k _ => [(10, .int .i64 k), (9, .pointer (some ⟨b9, 0, none⟩)), (7, .pointer (some ⟨b7, 0, none⟩)), (4, .pointer (some ⟨b4, 0, none⟩)), (1, .int .i64 i)]) (fun k _ => [(b9, Obj.cells (u8s (upT i p h k)).toArray 29 (0, 0)), (b7, Obj.cells (u8s p).toArray 30 (0, 0)), (b4, Obj.cells (u8s root).toArray 29 (0, 0))]) 0 () (Nat.zero_le _) trivial ⟨rfl, rfl, rfl, rfl, rfl, trivial⟩ (by repeat (first | exact List.nil_sublist _ | exact List.Sublist.refl _ | apply List.Sublist.cons_cons | apply List.Sublist.cons)) ?_
  intro k _ hk _
  have hu := upT_8 (i := i) (p := p) hh k
  have su : (u8s (upT i p h k)).toArray.size = 8 := by rw [List.size_toArray, u8s_len, hu.1]
  (repeat refine RC.seq ?_); refine RC.region ?_
  refine Run.a (Val.of rfl) ?_
  refine Run.a (Val.of rfl) ?_
  refine Run.nil (RQ.next ?_)
  (repeat refine RC.seq ?_); refine RC.wh rfl (fun h => RQ.next ?_) (fun h => ?_)
  · have hk' : k < 16 := by have := of_decide_eq_true h; omega
    clear h
    have hp8 := pc_8 hpl hpb hk'
    have sq : (u8s (pc 8 p k)).toArray.size = 8 := by rw [List.size_toArray, u8s_len, hp8.1]
    have hv := shr_nat (a := i) (k := k) (by omega)
    have hik : i / 2 ^ k < 65536 := Nat.lt_of_le_of_lt (Nat.div_le_self _ _) hi16
    have hx := and1 hik
    obtain ⟨X, hX⟩ : ∃ X, X = upT i p h (k + 1) := ⟨_, rfl⟩
    have hX2 : X = if i / 2 ^ k % 2 = 1 then overH (pc 8 p k) (upT i p h k) else overH (upT i p h k) (pc 8 p k) := hX
    have sX : (u8s X).toArray.size = 8 := by rw [List.size_toArray, u8s_len, hX, (upT_8 hh (k + 1)).1]
    generalize upT i p h k = U at hu su hX2 ⊢
    generalize i / 2 ^ k = ik at hv hik hx hX2
    refine z_ ?_
    rw [hv, hx]
    by_cases hbit : ik % 2 = 1
    · rw [if_pos hbit] at hX2
      rw [show (((ik % 2 : Nat) : Int) == 1) = true from by rw [hbit]; rfl]
      refine z_ ?_
      (repeat refine RC.seq ?_); refine RC.draw ([(b9, Obj.cells (u8s U).toArray 29 (0, 0)), (b7, Obj.cells (u8s p).toArray 30 (0, 0)), (b4, Obj.cells (u8s root).toArray 29 (0, 0))]) mixed (N := 6) rfl ?_
      refine dt 0 ?_
      refine DR.t 1 rfl (via k (k * 8) (ha := by show 0 + k * 8 = k * 8; omega) (hj := hk')) ?_
      refine DR.t 2 rfl (Val.loadPc tabOk k (c := 8) (l := p) rfl rfl rfl rfl (by repeat (first | exact List.mem_cons_self | apply List.mem_cons_of_mem | apply List.mem_append_right)) rfl rfl hp8.1) ?_
      refine DR.t 3 rfl (vla (hv := su)) ?_
      refine DR.c 4 (DOp.op1 rfl (OpTo.cv Tryd.func28 (fun w' hm => Over_calls (pc 8 p k) U hp8 hu w')) (fun _ => ?_))
      rw [← hX2]
      refine DR.c 5 ?_
      refine DOp.op1 rfl (osa (L' := [(b7, Obj.cells (u8s p).toArray 30 (0, 0)), (b4, Obj.cells (u8s root).toArray 29 (0, 0))]) (arr := (u8s U).toArray) (e := 29) (u8s X).toArray (u8s_one _) (hs := sX) (hf := su.symm) (hL := (perm_of fun f => by (simp only [List.map_append, List.map_cons, List.map_nil, List.sum_append, List.sum_cons, List.sum_nil] <;> omega)))) (fun _ => ?_)
      refine DR.done (by kernel_rfl) ?_
      refine z_ ?_
      rw [hX]
      exact RQ.upS (k + 1) () (Nat.lt_succ_self _) hk' trivial ⟨rfl, rfl, rfl, rfl, rfl, trivial⟩ (L1 := [(b9, Obj.cells (u8s (upT i p h (k + 1))).toArray 29 (0, 0)), (b7, Obj.cells (u8s p).toArray 30 (0, 0)), (b4, Obj.cells (u8s root).toArray 29 (0, 0))]) (perm_of fun f => by (simp only [List.map_append, List.map_cons, List.map_nil, List.sum_append, List.sum_cons, List.sum_nil] <;> omega)) (List.Sublist.refl _)
    · rw [if_neg hbit] at hX2
      rw [show (((ik % 2 : Nat) : Int) == 1) = false from by rw [show ik % 2 = 0 by omega]; rfl]
      refine z_ ?_
      (repeat refine RC.seq ?_); refine RC.draw ([(b9, Obj.cells (u8s U).toArray 29 (0, 0)), (b7, Obj.cells (u8s p).toArray 30 (0, 0)), (b4, Obj.cells (u8s root).toArray 29 (0, 0))]) mixed (N := 6) rfl ?_
      refine DR.t 0 rfl (vla (hv := su)) ?_
      refine dt 1 ?_
      refine DR.t 2 rfl (via k (k * 8) (ha := by show 0 + k * 8 = k * 8; omega) (hj := hk')) ?_
      refine DR.t 3 rfl (Val.loadPc tabOk k (c := 8) (l := p) rfl rfl rfl rfl (by repeat (first | exact List.mem_cons_self | apply List.mem_cons_of_mem | apply List.mem_append_right)) rfl rfl hp8.1) ?_
      refine DR.c 4 (DOp.op1 rfl (OpTo.cv Tryd.func28 (fun w' hm => Over_calls U (pc 8 p k) hu hp8 w')) (fun _ => ?_))
      rw [← hX2]
      refine DR.c 5 ?_
      refine DOp.op1 rfl (osa (L' := [(b7, Obj.cells (u8s p).toArray 30 (0, 0)), (b4, Obj.cells (u8s root).toArray 29 (0, 0))]) (arr := (u8s U).toArray) (e := 29) (u8s X).toArray (u8s_one _) (hs := sX) (hf := su.symm) (hL := (perm_of fun f => by (simp only [List.map_append, List.map_cons, List.map_nil, List.sum_append, List.sum_cons, List.sum_nil] <;> omega)))) (fun _ => ?_)
      refine DR.done (by kernel_rfl) ?_
      refine z_ ?_
      rw [hX]
      exact RQ.upS (k + 1) () (Nat.lt_succ_self _) hk' trivial ⟨rfl, rfl, rfl, rfl, rfl, trivial⟩ (L1 := [(b9, Obj.cells (u8s (upT i p h (k + 1))).toArray 29 (0, 0)), (b7, Obj.cells (u8s p).toArray 30 (0, 0)), (b4, Obj.cells (u8s root).toArray 29 (0, 0))]) (perm_of fun f => by (simp only [List.map_append, List.map_cons, List.map_nil, List.sum_append, List.sum_cons, List.sum_nil] <;> omega)) (List.Sublist.refl _)
  · have hk' : k = 16 := by have := of_decide_eq_false h; omega
    clear h
    subst hk'
    generalize upT i p h 16 = U at hu su ⊢
    (repeat refine RQ.thenExit ?_); refine RQ.blockHere ?_
    refine RQ.next ?_
    (repeat refine RC.seq ?_); refine RC.region ?_
    refine Run.a (vla (hv := su)) ?_
    refine Run.a (vla (hv := sr)) ?_
    refine Run.a (Val.eqU (m := 8) tabOk rfl rfl rfl (by kernel_rfl) (by kernel_rfl) rfl rfl hu.1 hr.1) ?_
    refine z_ ?_
    exact RQ.ret1 rfl (Res.tmp rfl) fun w' hm => ⟨rfl, hm.fr⟩
end Go.Proofs.YtaabinhpagbajaaDoor
