/- Lemmas. -/
import Derived.Test.YtfoeakgnkfcbjaaGreatDoorPt23
set_option linter.unusedSimpArgs false
set_option linter.unusedVariables false
section
/- tx: the reader: what has no lists (gen_ty0.py prints it). -/
namespace Go.Proofs.YtfoeakgnkfcbjaaGreatDoor
attribute [local irreducible] Go.Vc.Run Go.Vc.RC Go.Vc.RQ Go.Vc.DR Go.Vc.DOp Go.Vc.Knows Go.Vc.At
set_option maxHeartbeats 400000
set_option maxRecDepth 10000
open Go Go.Vc Go.Sha
theorem rdRow2 (m : Nat) (hm1 : m ≤ 1000) (F : List Value) (F' : By (m * 8) → List Value) (off : Nat) (h : ∃ pre old post, F = pre ++ (old ++ post) ∧ (∀ x : By (m * 8), F' x = pre ++ (u8s x.1 ++ post)) ∧ old.length = m * 8 ∧ pre.length = off) (b : Nat) (e : TypeId) (rb : Nat) (a : Option Addr) (l r : List Nat) (hr : r <:+ l) : RdsC 154 [.agg #[.pointer (some ⟨rb, 0, none⟩)], .slice (some ⟨b, off, none⟩) m m] rb a l r [(b, Obj.cells F.toArray e (0, 0))] (pB (m * 8) r) (fun _ => Unit) (fun _ _ => .tuple #[]) (fun x _ => [(b, Obj.cells (F' x).toArray e (0, 0))]) := by
  obtain ⟨pre, old, post, rfl, h2, h3, rfl⟩ := h
  have hF : F' = fun x => pre ++ (u8s x.1 ++ post) := funext h2
  subst hF
  exact rdRow m hm1 pre old post h3 b e rb a l r hr
theorem sg_at1 (z : Int) (op sh : By 128) (pa : By 24) : ∃ pre old post, SigD.c ⟨z, op, sh, pa⟩ = pre ++ (old ++ post) ∧ (∀ x : By 128, SigD.c ⟨z, x, sh, pa⟩ = pre ++ (u8s x.1 ++ post)) ∧ old.length = 16 * 8 ∧ pre.length = 1 := ⟨[.int .i64 z], u8s op.1, u8s sh.1 ++ u8s pa.1, rfl, fun _ => rfl, by rw [u8s_len, op.2.1], rfl⟩
theorem sg_at2 (z : Int) (op sh : By 128) (pa : By 24) : ∃ pre old post, SigD.c ⟨z, op, sh, pa⟩ = pre ++ (old ++ post) ∧ (∀ x : By 128, SigD.c ⟨z, op, x, pa⟩ = pre ++ (u8s x.1 ++ post)) ∧ old.length = 16 * 8 ∧ pre.length = 129 := ⟨.int .i64 z :: u8s op.1, u8s sh.1, u8s pa.1, rfl, fun _ => rfl, by rw [u8s_len, sh.2.1], by rw [List.length_cons, u8s_len, op.2.1]⟩
theorem sg_at3 (z : Int) (op sh : By 128) (pa : By 24) : ∃ pre old post, SigD.c ⟨z, op, sh, pa⟩ = pre ++ (old ++ post) ∧ (∀ x : By 24, SigD.c ⟨z, op, sh, x⟩ = pre ++ (u8s x.1 ++ post)) ∧ old.length = 3 * 8 ∧ pre.length = 257 := ⟨.int .i64 z :: (u8s op.1 ++ u8s sh.1), u8s pa.1, [], by rw [List.append_nil, SigD.eq, List.cons_append, List.append_assoc], fun x => by rw [List.append_nil, SigD.eq, List.cons_append, List.append_assoc], by rw [u8s_len, pa.2.1], by rw [List.length_cons, List.length_append, u8s_len, u8s_len, op.2.1, sh.2.1]⟩
theorem rdSig (rb : Nat) (a : Option Addr) (l r : List Nat) (hr : r <:+ l) : RdsC 150 [.agg #[.pointer (some ⟨rb, 0, none⟩)]] rb a l r [] (pSig r) (fun _ => Unit) (fun x _ => .agg x.c.toArray) (fun _ _ => []) := by
  intro w hI hw hnd
  refine enter Tryz.func150 rfl (Mem.init (S0 := rb :: ([] : Hp).map (·.1)) hw (fun p hp => List.mem_map_of_mem hp) hnd) rfl ?_
  have hbl := hI.bt
  refine z_ ?_
  refine Run.nw nbx ?_
  intro b1
  refine x_ ?_
  refine Run.nw nal ?_
  intro b2
  refine x_ ?_
  have hp1 : ([(b2, Obj.cells ti171.zero.cells 171 (0, 0)), (b1, Obj.cells #[.pointer (some ⟨rb, 0, none⟩)] 131 (0, 0)), (rb, RdS a l r)] : Hp).Perm (((rb, RdS a l r) :: []) ++ [(b2, Obj.cells ti171.zero.cells 171 (0, 0)), (b1, Obj.cells #[.pointer (some ⟨rb, 0, none⟩)] 131 (0, 0))]) := (perm_of fun f => by (simp only [List.map_append, List.map_cons, List.map_nil, List.sum_append, List.sum_cons, List.sum_nil] <;> omega))
  rcases h1 : pN 1 r with _ | ⟨x1, r1⟩
  · refine Run.op1 (callRn Tryz.func44 (rdNum 1 (by decide) rb a l r hr) hI hp1 h1 (fun k hk => ?_)) (fun y => y.elim)
    repeat first | refine RQ.thenPanic ?_ | refine RQ.blockPanic ?_
    exact RQ.panR (by simp [pSig, pMap, pAnd, h1]) hk
  have hr1 := (good_N 1).sfx hbl hr h1
  refine Run.op1 (callRs Tryz.func44 (rdNum 1 (by decide) rb a l r hr) hI hp1 h1) (fun _ => ?_)
  dsimp only [List.append_nil, List.cons_append, List.nil_append]
  refine x_ ?_
  refine Run.a (vbs (SigD.c ⟨x1, By.z 128, By.z 128, By.z 24⟩).toArray) ?_
  refine x_ ?_
  refine Run.nw nal ?_
  intro b3
  refine x_ ?_
  refine Run.op1 (osa (arr := ti171.zero.cells) (e := 171) (L' := [(rb, RdS a l r1), (b2, Obj.cells ti171.zero.cells 171 (0, 0)), (b1, Obj.cells #[.pointer (some ⟨rb, 0, none⟩)] 131 (0, 0))]) (SigD.c ⟨x1, By.z 128, By.z 128, By.z 24⟩).toArray (SigD.one _) (hL := (perm_of fun f => by (simp only [List.map_append, List.map_cons, List.map_nil, List.sum_append, List.sum_cons, List.sum_nil] <;> omega)))) (fun _ => ?_)
  refine x_ ?_
  (repeat refine RC.seq ?_); refine RC.draw ([(b1, Obj.cells #[.pointer (some ⟨rb, 0, none⟩)] 131 (0, 0))]) mixed (N := 4) rfl ?_
  refine dy 0 ?_
  refine dy 1 ?_
  refine DR.t 2 rfl (vslA) ?_
  have hp2 : ([(b3, Obj.cells (SigD.c ⟨x1, By.z 128, By.z 128, By.z 24⟩).toArray 171 (0, 0)), (rb, RdS a l r1), (b2, Obj.cells ti171.zero.cells 171 (0, 0)), (b1, Obj.cells #[.pointer (some ⟨rb, 0, none⟩)] 131 (0, 0))] : Hp).Perm (((rb, RdS a l r1) :: [(b3, Obj.cells (SigD.c ⟨x1, By.z 128, By.z 128, By.z 24⟩).toArray 171 (0, 0))]) ++ [(b2, Obj.cells ti171.zero.cells 171 (0, 0)), (b1, Obj.cells #[.pointer (some ⟨rb, 0, none⟩)] 131 (0, 0))]) := (perm_of fun f => by (simp only [List.map_append, List.map_cons, List.map_nil, List.sum_append, List.sum_cons, List.sum_nil] <;> omega))
  rcases h2 : pB 128 r1 with _ | ⟨x2, r2⟩
  · refine DR.c 3 (DOp.op1 rfl (callRn Tryz.func154 (rdRow2 16 (by decide) (SigD.c ⟨x1, By.z 128, By.z 128, By.z 24⟩) (fun x => SigD.c ⟨x1, x, By.z 128, By.z 24⟩) 1 (sg_at1 x1 (By.z 128) (By.z 128) (By.z 24)) b3 171 rb a l r1 hr1) hI hp2 h2 (fun k hk => ?_)) (fun y => y.elim) (hl := .inl fun y => y.elim))
    repeat first | refine RQ.thenPanic ?_ | refine RQ.blockPanic ?_
    exact RQ.panR (by simp [pSig, pMap, pAnd, h1, h2]) hk
  have hr2 := (good_B 128).sfx hbl hr1 h2
  refine DR.c 3 (DOp.op1 rfl (callRs Tryz.func154 (rdRow2 16 (by decide) (SigD.c ⟨x1, By.z 128, By.z 128, By.z 24⟩) (fun x => SigD.c ⟨x1, x, By.z 128, By.z 24⟩) 1 (sg_at1 x1 (By.z 128) (By.z 128) (By.z 24)) b3 171 rb a l r1 hr1) hI hp2 h2) (fun _ => ?_))
  dsimp only [List.append_nil, List.cons_append, List.nil_append]
  refine DR.done (by kernel_rfl) ?_
  refine x_ ?_
  (repeat refine RC.seq ?_); refine RC.draw ([(b1, Obj.cells #[.pointer (some ⟨rb, 0, none⟩)] 131 (0, 0))]) mixed (N := 4) rfl ?_
  refine dy 0 ?_
  refine dy 1 ?_
  refine DR.t 2 rfl (vslA) ?_
  have hp3 : ([(rb, RdS a l r2), (b3, Obj.cells (SigD.c ⟨x1, x2, By.z 128, By.z 24⟩).toArray 171 (0, 0)), (b2, Obj.cells ti171.zero.cells 171 (0, 0)), (b1, Obj.cells #[.pointer (some ⟨rb, 0, none⟩)] 131 (0, 0))] : Hp).Perm (((rb, RdS a l r2) :: [(b3, Obj.cells (SigD.c ⟨x1, x2, By.z 128, By.z 24⟩).toArray 171 (0, 0))]) ++ [(b2, Obj.cells ti171.zero.cells 171 (0, 0)), (b1, Obj.cells #[.pointer (some ⟨rb, 0, none⟩)] 131 (0, 0))]) := (perm_of fun f => by (simp only [List.map_append, List.map_cons, List.map_nil, List.sum_append, List.sum_cons, List.sum_nil] <;> omega))
  rcases h3 : pB 128 r2 with _ | ⟨x3, r3⟩
  · refine DR.c 3 (DOp.op1 rfl (callRn Tryz.func154 (rdRow2 16 (by decide) (SigD.c ⟨x1, x2, By.z 128, By.z 24⟩) (fun x => SigD.c ⟨x1, x2, x, By.z 24⟩) 129 (sg_at2 x1 x2 (By.z 128) (By.z 24)) b3 171 rb a l r2 hr2) hI hp3 h3 (fun k hk => ?_)) (fun y => y.elim) (hl := .inl fun y => y.elim))
    repeat first | refine RQ.thenPanic ?_ | refine RQ.blockPanic ?_
    exact RQ.panR (by simp [pSig, pMap, pAnd, h1, h2, h3]) hk
  have hr3 := (good_B 128).sfx hbl hr2 h3
  refine DR.c 3 (DOp.op1 rfl (callRs Tryz.func154 (rdRow2 16 (by decide) (SigD.c ⟨x1, x2, By.z 128, By.z 24⟩) (fun x => SigD.c ⟨x1, x2, x, By.z 24⟩) 129 (sg_at2 x1 x2 (By.z 128) (By.z 24)) b3 171 rb a l r2 hr2) hI hp3 h3) (fun _ => ?_))
  dsimp only [List.append_nil, List.cons_append, List.nil_append]
  refine DR.done (by kernel_rfl) ?_
  refine x_ ?_
  (repeat refine RC.seq ?_); refine RC.draw ([(b1, Obj.cells #[.pointer (some ⟨rb, 0, none⟩)] 131 (0, 0))]) mixed (N := 4) rfl ?_
  refine dy 0 ?_
  refine dy 1 ?_
  refine DR.t 2 rfl (vslA) ?_
  have hp4 : ([(rb, RdS a l r3), (b3, Obj.cells (SigD.c ⟨x1, x2, x3, By.z 24⟩).toArray 171 (0, 0)), (b2, Obj.cells ti171.zero.cells 171 (0, 0)), (b1, Obj.cells #[.pointer (some ⟨rb, 0, none⟩)] 131 (0, 0))] : Hp).Perm (((rb, RdS a l r3) :: [(b3, Obj.cells (SigD.c ⟨x1, x2, x3, By.z 24⟩).toArray 171 (0, 0))]) ++ [(b2, Obj.cells ti171.zero.cells 171 (0, 0)), (b1, Obj.cells #[.pointer (some ⟨rb, 0, none⟩)] 131 (0, 0))]) := (perm_of fun f => by (simp only [List.map_append, List.map_cons, List.map_nil, List.sum_append, List.sum_cons, List.sum_nil] <;> omega))
  rcases h4 : pB 24 r3 with _ | ⟨x4, r4⟩
  · refine DR.c 3 (DOp.op1 rfl (callRn Tryz.func154 (rdRow2 3 (by decide) (SigD.c ⟨x1, x2, x3, By.z 24⟩) (fun x => SigD.c ⟨x1, x2, x3, x⟩) 257 (sg_at3 x1 x2 x3 (By.z 24)) b3 171 rb a l r3 hr3) hI hp4 h4 (fun k hk => ?_)) (fun y => y.elim) (hl := .inl fun y => y.elim))
    repeat first | refine RQ.thenPanic ?_ | refine RQ.blockPanic ?_
    exact RQ.panR (by simp [pSig, pMap, pAnd, h1, h2, h3, h4]) hk
  have hr4 := (good_B 24).sfx hbl hr3 h4
  refine DR.c 3 (DOp.op1 rfl (callRs Tryz.func154 (rdRow2 3 (by decide) (SigD.c ⟨x1, x2, x3, By.z 24⟩) (fun x => SigD.c ⟨x1, x2, x3, x⟩) 257 (sg_at3 x1 x2 x3 (By.z 24)) b3 171 rb a l r3 hr3) hI hp4 h4) (fun _ => ?_))
  dsimp only [List.append_nil, List.cons_append, List.nil_append]
  refine DR.done (by kernel_rfl) ?_
  have hsz : (SigD.c ⟨x1, x2, x3, x4⟩).toArray.size = 281 := by rw [List.size_toArray, SigD.len]
  refine x_ ?_
  refine Run.op1 (osa (arr := ti171.zero.cells) (e := 171) (L' := [(rb, RdS a l r4), (b3, Obj.cells (SigD.c ⟨x1, x2, x3, x4⟩).toArray 171 (0, 0)), (b1, Obj.cells #[.pointer (some ⟨rb, 0, none⟩)] 131 (0, 0))]) (SigD.c ⟨x1, x2, x3, x4⟩).toArray (SigD.one _) (hL := (perm_of fun f => by (simp only [List.map_append, List.map_cons, List.map_nil, List.sum_append, List.sum_cons, List.sum_nil] <;> omega))) (hs := by exact hsz)) (fun _ => ?_)
  refine x_ ?_
  exact RQ.ret1 rfl (Res.cellAll tabOk rfl rfl rfl m0 hsz) fun w' hm => RdsQ.fin (r' := r4) (show pSig r = some (⟨x1, x2, x3, x4⟩, r4) from by simp [pSig, pMap, pAnd, h1, h2, h3, h4]) () hm (Lr := [(b2, Obj.cells (SigD.c ⟨x1, x2, x3, x4⟩).toArray 171 (0, 0)), (b3, Obj.cells (SigD.c ⟨x1, x2, x3, x4⟩).toArray 171 (0, 0)), (b1, Obj.cells #[.pointer (some ⟨rb, 0, none⟩)] 131 (0, 0))]) (perm_of fun f => by (simp only [List.map_append, List.map_cons, List.map_nil, List.sum_append, List.sum_cons, List.sum_nil] <;> omega))
theorem out_w8 (t : By 8) (a b : Int) : wrAt (OutD.c ⟨t, a⟩).toArray 8 [.int .i64 b] = (OutD.c ⟨t, b⟩).toArray := wr_at' (pre := u8s t.1) (old := [.int .i64 a]) (post := []) (by rw [List.append_nil]; rfl) (by rw [List.append_nil]; rfl) rfl (by rw [u8s_len, t.2.1])
theorem one_i (k : IntKind) (z : Int) : ∀ u ∈ (Value.int k z).cells.toList, u.oneCell' = true := by
  intro u hu
  simp only [Value.cells, List.mem_cons, List.not_mem_nil, or_false] at hu
  subst hu; rfl
theorem rdOut (rb : Nat) (a : Option Addr) (l r : List Nat) (hr : r <:+ l) : RdsC 116 [.agg #[.pointer (some ⟨rb, 0, none⟩)]] rb a l r [] (pOut r) (fun _ => Unit) (fun x _ => .agg x.c.toArray) (fun _ _ => []) := by
  intro w hI hw hnd
  refine enter Tryz.func116 rfl (Mem.init (S0 := rb :: ([] : Hp).map (·.1)) hw (fun p hp => List.mem_map_of_mem hp) hnd) rfl ?_
  have hbl := hI.bt
  refine z_ ?_
  refine Run.nw nbx ?_
  intro b1
  refine x_ ?_
  refine Run.nw nal ?_
  intro b2
  refine x_ ?_
  have hp1 : ([(b2, Obj.cells ti164.zero.cells 164 (0, 0)), (b1, Obj.cells #[.pointer (some ⟨rb, 0, none⟩)] 131 (0, 0)), (rb, RdS a l r)] : Hp).Perm (((rb, RdS a l r) :: []) ++ [(b2, Obj.cells ti164.zero.cells 164 (0, 0)), (b1, Obj.cells #[.pointer (some ⟨rb, 0, none⟩)] 131 (0, 0))]) := (perm_of fun f => by (simp only [List.map_append, List.map_cons, List.map_nil, List.sum_append, List.sum_cons, List.sum_nil] <;> omega))
  rcases h1 : pB 8 r with _ | ⟨x1, r1⟩
  · refine Run.op1 (callRn Tryz.func42 (rdHash rb a l r hr) hI hp1 h1 (fun k hk => ?_)) (fun y => y.elim)
    repeat first | refine RQ.thenPanic ?_ | refine RQ.blockPanic ?_
    exact RQ.panR (by simp [pOut, pMap, pAnd, h1]) hk
  have hr1 := (good_B 8).sfx hbl hr h1
  refine Run.op1 (callRs Tryz.func42 (rdHash rb a l r hr) hI hp1 h1) (fun _ => ?_)
  dsimp only [List.append_nil, List.cons_append, List.nil_append]
  have hx8 : (u8s x1.1).length = 8 := by rw [u8s_len, x1.2.1]
  refine x_ ?_
  refine Run.a (vbs (OutD.c ⟨x1, 0⟩).toArray (hf := by exact fill_first (F := OutD.c ⟨x1, 0⟩) rfl (show (u8s x1.1).toArray.size = 8 by rw [List.size_toArray, hx8]) (by decide) rfl)) ?_
  refine x_ ?_
  refine Run.nw nal ?_
  intro b3
  have hsz0 : (OutD.c ⟨x1, 0⟩).toArray.size = 9 := by rw [List.size_toArray, OutD.len]
  refine x_ ?_
  refine Run.op1 (osa (arr := ti164.zero.cells) (e := 164) (L' := [(rb, RdS a l r1), (b2, Obj.cells ti164.zero.cells 164 (0, 0)), (b1, Obj.cells #[.pointer (some ⟨rb, 0, none⟩)] 131 (0, 0))]) (OutD.c ⟨x1, 0⟩).toArray (OutD.one _) (hL := (perm_of fun f => by (simp only [List.map_append, List.map_cons, List.map_nil, List.sum_append, List.sum_cons, List.sum_nil] <;> omega))) (hs := by exact hsz0)) (fun _ => ?_)
  refine x_ ?_
  have hp2 : ([(b3, Obj.cells (OutD.c ⟨x1, 0⟩).toArray 164 (0, 0)), (rb, RdS a l r1), (b2, Obj.cells ti164.zero.cells 164 (0, 0)), (b1, Obj.cells #[.pointer (some ⟨rb, 0, none⟩)] 131 (0, 0))] : Hp).Perm (((rb, RdS a l r1) :: []) ++ [(b3, Obj.cells (OutD.c ⟨x1, 0⟩).toArray 164 (0, 0)), (b2, Obj.cells ti164.zero.cells 164 (0, 0)), (b1, Obj.cells #[.pointer (some ⟨rb, 0, none⟩)] 131 (0, 0))]) := (perm_of fun f => by (simp only [List.map_append, List.map_cons, List.map_nil, List.sum_append, List.sum_cons, List.sum_nil] <;> omega))
  rcases h2 : pN 7 r1 with _ | ⟨x2, r2⟩
  · refine Run.op1 (callRn Tryz.func44 (rdNum 7 (by decide) rb a l r1 hr1) hI hp2 h2 (fun k hk => ?_)) (fun y => y.elim)
    repeat first | refine RQ.thenPanic ?_ | refine RQ.blockPanic ?_
    exact RQ.panR (by simp [pOut, pMap, pAnd, h1, h2]) hk
  have hr2 := (good_N 7).sfx hbl hr1 h2
  refine Run.op1 (callRs Tryz.func44 (rdNum 7 (by decide) rb a l r1 hr1) hI hp2 h2) (fun _ => ?_)
  dsimp only [List.append_nil, List.cons_append, List.nil_append]
  refine x_ ?_
  refine Run.op1 (ostE (arr := (OutD.c ⟨x1, 0⟩).toArray) (e := 164) (L' := [(rb, RdS a l r2), (b2, Obj.cells ti164.zero.cells 164 (0, 0)), (b1, Obj.cells #[.pointer (some ⟨rb, 0, none⟩)] 131 (0, 0))]) (OutD.c ⟨x1, x2⟩).toArray (hL := (perm_of fun f => by (simp only [List.map_append, List.map_cons, List.map_nil, List.sum_append, List.sum_cons, List.sum_nil] <;> omega))) (he := by exact out_w8 x1 0 x2) (hf := by rw [hsz0]; decide) (h1 := by exact one_i _ _)) (fun _ => ?_)
  have hsz : (OutD.c ⟨x1, x2⟩).toArray.size = 9 := by rw [List.size_toArray, OutD.len]
  refine x_ ?_
  refine Run.op1 (osa (arr := ti164.zero.cells) (e := 164) (L' := [(b3, Obj.cells (OutD.c ⟨x1, x2⟩).toArray 164 (0, 0)), (rb, RdS a l r2), (b1, Obj.cells #[.pointer (some ⟨rb, 0, none⟩)] 131 (0, 0))]) (OutD.c ⟨x1, x2⟩).toArray (OutD.one _) (hL := (perm_of fun f => by (simp only [List.map_append, List.map_cons, List.map_nil, List.sum_append, List.sum_cons, List.sum_nil] <;> omega))) (hs := by exact hsz)) (fun _ => ?_)
  refine x_ ?_
  exact RQ.ret1 rfl (Res.cellAll tabOk rfl rfl rfl m0 hsz) fun w' hm => RdsQ.fin (r' := r2) (show pOut r = some (⟨x1, x2⟩, r2) from by simp [pOut, pMap, pAnd, h1, h2]) () hm (Lr := [(b2, Obj.cells (OutD.c ⟨x1, x2⟩).toArray 164 (0, 0)), (b3, Obj.cells (OutD.c ⟨x1, x2⟩).toArray 164 (0, 0)), (b1, Obj.cells #[.pointer (some ⟨rb, 0, none⟩)] 131 (0, 0))]) (perm_of fun f => by (simp only [List.map_append, List.map_cons, List.map_nil, List.sum_append, List.sum_cons, List.sum_nil] <;> omega))
theorem fo_w1 (s : Int) (o : By 8) (a b m : Int) : wrAt (FoD.c ⟨s, a, o, m⟩).toArray 1 [.int .i64 b] = (FoD.c ⟨s, b, o, m⟩).toArray := wr_at' (pre := [.int .i64 s]) (old := [.int .i64 a]) (post := u8s o.1 ++ [.int .i64 m]) rfl rfl rfl rfl
theorem fo_w2 (s a : Int) (o p : By 8) (m : Int) : wrAt (FoD.c ⟨s, a, o, m⟩).toArray 2 (u8s p.1) = (FoD.c ⟨s, a, p, m⟩).toArray := wr_at' (pre := [.int .i64 s, .int .i64 a]) (old := u8s o.1) (post := [.int .i64 m]) rfl rfl (by rw [u8s_len, u8s_len, o.2.1, p.2.1]) rfl
theorem fo_w10 (s a : Int) (o : By 8) (m b : Int) : wrAt (FoD.c ⟨s, a, o, m⟩).toArray 10 [.int .i64 b] = (FoD.c ⟨s, a, o, b⟩).toArray := wr_at' (pre := .int .i64 s :: .int .i64 a :: u8s o.1) (old := [.int .i64 m]) (post := []) (by rw [List.append_nil]; rfl) (by rw [List.append_nil]; rfl) rfl (by simp only [List.length_cons, u8s_len, o.2.1])
theorem rdFo (rb : Nat) (a : Option Addr) (l r : List Nat) (hr : r <:+ l) : RdsC 120 [.agg #[.pointer (some ⟨rb, 0, none⟩)]] rb a l r [] (pFo r) (fun _ => Unit) (fun x _ => .agg x.c.toArray) (fun _ _ => []) := by
  intro w hI hw hnd
  refine enter Tryz.func120 rfl (Mem.init (S0 := rb :: ([] : Hp).map (·.1)) hw (fun p hp => List.mem_map_of_mem hp) hnd) rfl ?_
  have hbl := hI.bt
  refine z_ ?_
  refine Run.nw nbx ?_
  intro b1
  refine x_ ?_
  refine Run.nw nal ?_
  intro b2
  refine x_ ?_
  have hp1 : ([(b2, Obj.cells ti177.zero.cells 177 (0, 0)), (b1, Obj.cells #[.pointer (some ⟨rb, 0, none⟩)] 131 (0, 0)), (rb, RdS a l r)] : Hp).Perm (((rb, RdS a l r) :: []) ++ [(b2, Obj.cells ti177.zero.cells 177 (0, 0)), (b1, Obj.cells #[.pointer (some ⟨rb, 0, none⟩)] 131 (0, 0))]) := (perm_of fun f => by (simp only [List.map_append, List.map_cons, List.map_nil, List.sum_append, List.sum_cons, List.sum_nil] <;> omega))
  rcases h1 : pN 1 r with _ | ⟨x1, r1⟩
  · refine Run.op1 (callRn Tryz.func44 (rdNum 1 (by decide) rb a l r hr) hI hp1 h1 (fun k hk => ?_)) (fun y => y.elim)
    repeat first | refine RQ.thenPanic ?_ | refine RQ.blockPanic ?_
    exact RQ.panR (by simp [pFo, pMap, pAnd, h1]) hk
  have hr1 := (good_N 1).sfx hbl hr h1
  refine Run.op1 (callRs Tryz.func44 (rdNum 1 (by decide) rb a l r hr) hI hp1 h1) (fun _ => ?_)
  dsimp only [List.append_nil, List.cons_append, List.nil_append]
  refine x_ ?_
  refine Run.a (vbs (FoD.c ⟨x1, 0, By.z 8, 0⟩).toArray) ?_
  refine x_ ?_
  refine Run.nw nal ?_
  intro b3
  refine x_ ?_
  refine Run.op1 (osa (arr := ti177.zero.cells) (e := 177) (L' := [(rb, RdS a l r1), (b2, Obj.cells ti177.zero.cells 177 (0, 0)), (b1, Obj.cells #[.pointer (some ⟨rb, 0, none⟩)] 131 (0, 0))]) (FoD.c ⟨x1, 0, By.z 8, 0⟩).toArray (FoD.one _) (hL := (perm_of fun f => by (simp only [List.map_append, List.map_cons, List.map_nil, List.sum_append, List.sum_cons, List.sum_nil] <;> omega)))) (fun _ => ?_)
  refine x_ ?_
  have hp2 : ([(b3, Obj.cells (FoD.c ⟨x1, 0, By.z 8, 0⟩).toArray 177 (0, 0)), (rb, RdS a l r1), (b2, Obj.cells ti177.zero.cells 177 (0, 0)), (b1, Obj.cells #[.pointer (some ⟨rb, 0, none⟩)] 131 (0, 0))] : Hp).Perm (((rb, RdS a l r1) :: []) ++ [(b3, Obj.cells (FoD.c ⟨x1, 0, By.z 8, 0⟩).toArray 177 (0, 0)), (b2, Obj.cells ti177.zero.cells 177 (0, 0)), (b1, Obj.cells #[.pointer (some ⟨rb, 0, none⟩)] 131 (0, 0))]) := (perm_of fun f => by (simp only [List.map_append, List.map_cons, List.map_nil, List.sum_append, List.sum_cons, List.sum_nil] <;> omega))
  rcases h2 : pN 2 r1 with _ | ⟨x2, r2⟩
  · refine Run.op1 (callRn Tryz.func44 (rdNum 2 (by decide) rb a l r1 hr1) hI hp2 h2 (fun k hk => ?_)) (fun y => y.elim)
    repeat first | refine RQ.thenPanic ?_ | refine RQ.blockPanic ?_
    exact RQ.panR (by simp [pFo, pMap, pAnd, h1, h2]) hk
  have hr2 := (good_N 2).sfx hbl hr1 h2
  refine Run.op1 (callRs Tryz.func44 (rdNum 2 (by decide) rb a l r1 hr1) hI hp2 h2) (fun _ => ?_)
  dsimp only [List.append_nil, List.cons_append, List.nil_append]
  refine x_ ?_
  refine Run.op1 (ostE (arr := (FoD.c ⟨x1, 0, By.z 8, 0⟩).toArray) (e := 177) (L' := [(rb, RdS a l r2), (b2, Obj.cells ti177.zero.cells 177 (0, 0)), (b1, Obj.cells #[.pointer (some ⟨rb, 0, none⟩)] 131 (0, 0))]) (FoD.c ⟨x1, x2, By.z 8, 0⟩).toArray (hL := (perm_of fun f => by (simp only [List.map_append, List.map_cons, List.map_nil, List.sum_append, List.sum_cons, List.sum_nil] <;> omega))) (he := by exact fo_w1 _ _ _ _ _) (hf := by rw [List.size_toArray, FoD.len]; decide) (h1 := by exact one_i _ _)) (fun _ => ?_)
  refine x_ ?_
  have hp3 : ([(b3, Obj.cells (FoD.c ⟨x1, x2, By.z 8, 0⟩).toArray 177 (0, 0)), (rb, RdS a l r2), (b2, Obj.cells ti177.zero.cells 177 (0, 0)), (b1, Obj.cells #[.pointer (some ⟨rb, 0, none⟩)] 131 (0, 0))] : Hp).Perm (((rb, RdS a l r2) :: []) ++ [(b3, Obj.cells (FoD.c ⟨x1, x2, By.z 8, 0⟩).toArray 177 (0, 0)), (b2, Obj.cells ti177.zero.cells 177 (0, 0)), (b1, Obj.cells #[.pointer (some ⟨rb, 0, none⟩)] 131 (0, 0))]) := (perm_of fun f => by (simp only [List.map_append, List.map_cons, List.map_nil, List.sum_append, List.sum_cons, List.sum_nil] <;> omega))
  rcases h3 : pB 8 r2 with _ | ⟨x3, r3⟩
  · refine Run.op1 (callRn Tryz.func42 (rdHash rb a l r2 hr2) hI hp3 h3 (fun k hk => ?_)) (fun y => y.elim)
    repeat first | refine RQ.thenPanic ?_ | refine RQ.blockPanic ?_
    exact RQ.panR (by simp [pFo, pMap, pAnd, h1, h2, h3]) hk
  have hr3 := (good_B 8).sfx hbl hr2 h3
  refine Run.op1 (callRs Tryz.func42 (rdHash rb a l r2 hr2) hI hp3 h3) (fun _ => ?_)
  dsimp only [List.append_nil, List.cons_append, List.nil_append]
  have hx8 : (u8s x3.1).length = 8 := by rw [u8s_len, x3.2.1]
  refine x_ ?_
  refine Run.op1 (ostE (arr := (FoD.c ⟨x1, x2, By.z 8, 0⟩).toArray) (e := 177) (L' := [(rb, RdS a l r3), (b2, Obj.cells ti177.zero.cells 177 (0, 0)), (b1, Obj.cells #[.pointer (some ⟨rb, 0, none⟩)] 131 (0, 0))]) (FoD.c ⟨x1, x2, x3, 0⟩).toArray (hL := (perm_of fun f => by (simp only [List.map_append, List.map_cons, List.map_nil, List.sum_append, List.sum_cons, List.sum_nil] <;> omega))) (hs := by show (u8s x3.1).toArray.size = 8; rw [List.size_toArray, hx8]) (he := by exact fo_w2 _ _ _ _ _) (hf := by rw [List.size_toArray, FoD.len]; decide) (h1 := by exact u8s_one _)) (fun _ => ?_)
  refine x_ ?_
  have hp4 : ([(b3, Obj.cells (FoD.c ⟨x1, x2, x3, 0⟩).toArray 177 (0, 0)), (rb, RdS a l r3), (b2, Obj.cells ti177.zero.cells 177 (0, 0)), (b1, Obj.cells #[.pointer (some ⟨rb, 0, none⟩)] 131 (0, 0))] : Hp).Perm (((rb, RdS a l r3) :: []) ++ [(b3, Obj.cells (FoD.c ⟨x1, x2, x3, 0⟩).toArray 177 (0, 0)), (b2, Obj.cells ti177.zero.cells 177 (0, 0)), (b1, Obj.cells #[.pointer (some ⟨rb, 0, none⟩)] 131 (0, 0))]) := (perm_of fun f => by (simp only [List.map_append, List.map_cons, List.map_nil, List.sum_append, List.sum_cons, List.sum_nil] <;> omega))
  rcases h4 : pN 7 r3 with _ | ⟨x4, r4⟩
  · refine Run.op1 (callRn Tryz.func44 (rdNum 7 (by decide) rb a l r3 hr3) hI hp4 h4 (fun k hk => ?_)) (fun y => y.elim)
    repeat first | refine RQ.thenPanic ?_ | refine RQ.blockPanic ?_
    exact RQ.panR (by simp [pFo, pMap, pAnd, h1, h2, h3, h4]) hk
  have hr4 := (good_N 7).sfx hbl hr3 h4
  refine Run.op1 (callRs Tryz.func44 (rdNum 7 (by decide) rb a l r3 hr3) hI hp4 h4) (fun _ => ?_)
  dsimp only [List.append_nil, List.cons_append, List.nil_append]
  refine x_ ?_
  refine Run.op1 (ostE (arr := (FoD.c ⟨x1, x2, x3, 0⟩).toArray) (e := 177) (L' := [(rb, RdS a l r4), (b2, Obj.cells ti177.zero.cells 177 (0, 0)), (b1, Obj.cells #[.pointer (some ⟨rb, 0, none⟩)] 131 (0, 0))]) (FoD.c ⟨x1, x2, x3, x4⟩).toArray (hL := (perm_of fun f => by (simp only [List.map_append, List.map_cons, List.map_nil, List.sum_append, List.sum_cons, List.sum_nil] <;> omega))) (he := by exact fo_w10 _ _ _ _ _) (hf := by rw [List.size_toArray, FoD.len]; decide) (h1 := by exact one_i _ _)) (fun _ => ?_)
  have hsz : (FoD.c ⟨x1, x2, x3, x4⟩).toArray.size = 11 := by rw [List.size_toArray, FoD.len]
  refine x_ ?_
  refine Run.op1 (osa (arr := ti177.zero.cells) (e := 177) (L' := [(b3, Obj.cells (FoD.c ⟨x1, x2, x3, x4⟩).toArray 177 (0, 0)), (rb, RdS a l r4), (b1, Obj.cells #[.pointer (some ⟨rb, 0, none⟩)] 131 (0, 0))]) (FoD.c ⟨x1, x2, x3, x4⟩).toArray (FoD.one _) (hL := (perm_of fun f => by (simp only [List.map_append, List.map_cons, List.map_nil, List.sum_append, List.sum_cons, List.sum_nil] <;> omega))) (hs := by exact hsz)) (fun _ => ?_)
  refine x_ ?_
  exact RQ.ret1 rfl (Res.cellAll tabOk rfl rfl rfl m0 hsz) fun w' hm => RdsQ.fin (r' := r4) (show pFo r = some (⟨x1, x2, x3, x4⟩, r4) from by simp [pFo, pMap, pAnd, h1, h2, h3, h4]) () hm (Lr := [(b2, Obj.cells (FoD.c ⟨x1, x2, x3, x4⟩).toArray 177 (0, 0)), (b3, Obj.cells (FoD.c ⟨x1, x2, x3, x4⟩).toArray 177 (0, 0)), (b1, Obj.cells #[.pointer (some ⟨rb, 0, none⟩)] 131 (0, 0))]) (perm_of fun f => by (simp only [List.map_append, List.map_cons, List.map_nil, List.sum_append, List.sum_cons, List.sum_nil] <;> omega))
theorem sd_w1 (k : Int) (s q : SigD) : wrAt (SgD.c ⟨k, s⟩).toArray 1 q.c = (SgD.c ⟨k, q⟩).toArray := wr_at' (pre := [.int .i64 k]) (old := s.c) (post := []) (by rw [List.append_nil]; rfl) (by rw [List.append_nil]; rfl) (by rw [SigD.len, SigD.len]) rfl
theorem rdSg (rb : Nat) (a : Option Addr) (l r : List Nat) (hr : r <:+ l) : RdsC 153 [.agg #[.pointer (some ⟨rb, 0, none⟩)]] rb a l r [] (pSg r) (fun _ => Unit) (fun x _ => .agg x.c.toArray) (fun _ _ => []) := by
  intro w hI hw hnd
  refine enter Tryz.func153 rfl (Mem.init (S0 := rb :: ([] : Hp).map (·.1)) hw (fun p hp => List.mem_map_of_mem hp) hnd) rfl ?_
  have hbl := hI.bt
  refine z_ ?_
  refine Run.nw nbx ?_
  intro b1
  refine x_ ?_
  refine Run.nw nal ?_
  intro b2
  refine x_ ?_
  have hp1 : ([(b2, Obj.cells ti188.zero.cells 188 (0, 0)), (b1, Obj.cells #[.pointer (some ⟨rb, 0, none⟩)] 131 (0, 0)), (rb, RdS a l r)] : Hp).Perm (((rb, RdS a l r) :: []) ++ [(b2, Obj.cells ti188.zero.cells 188 (0, 0)), (b1, Obj.cells #[.pointer (some ⟨rb, 0, none⟩)] 131 (0, 0))]) := (perm_of fun f => by (simp only [List.map_append, List.map_cons, List.map_nil, List.sum_append, List.sum_cons, List.sum_nil] <;> omega))
  rcases h1 : pN 1 r with _ | ⟨x1, r1⟩
  · refine Run.op1 (callRn Tryz.func44 (rdNum 1 (by decide) rb a l r hr) hI hp1 h1 (fun k hk => ?_)) (fun y => y.elim)
    repeat first | refine RQ.thenPanic ?_ | refine RQ.blockPanic ?_
    exact RQ.panR (by simp [pSg, pMap, pAnd, h1]) hk
  have hr1 := (good_N 1).sfx hbl hr h1
  refine Run.op1 (callRs Tryz.func44 (rdNum 1 (by decide) rb a l r hr) hI hp1 h1) (fun _ => ?_)
  dsimp only [List.append_nil, List.cons_append, List.nil_append]
  refine x_ ?_
  refine Run.a (vbs (SgD.c ⟨x1, SigD.nul⟩).toArray) ?_
  refine x_ ?_
  refine Run.nw nal ?_
  intro b3
  refine x_ ?_
  refine Run.op1 (osa (arr := ti188.zero.cells) (e := 188) (L' := [(rb, RdS a l r1), (b2, Obj.cells ti188.zero.cells 188 (0, 0)), (b1, Obj.cells #[.pointer (some ⟨rb, 0, none⟩)] 131 (0, 0))]) (SgD.c ⟨x1, SigD.nul⟩).toArray (SgD.one _) (hL := (perm_of fun f => by (simp only [List.map_append, List.map_cons, List.map_nil, List.sum_append, List.sum_cons, List.sum_nil] <;> omega)))) (fun _ => ?_)
  refine x_ ?_
  have hp2 : ([(b3, Obj.cells (SgD.c ⟨x1, SigD.nul⟩).toArray 188 (0, 0)), (rb, RdS a l r1), (b2, Obj.cells ti188.zero.cells 188 (0, 0)), (b1, Obj.cells #[.pointer (some ⟨rb, 0, none⟩)] 131 (0, 0))] : Hp).Perm (((rb, RdS a l r1) :: []) ++ [(b3, Obj.cells (SgD.c ⟨x1, SigD.nul⟩).toArray 188 (0, 0)), (b2, Obj.cells ti188.zero.cells 188 (0, 0)), (b1, Obj.cells #[.pointer (some ⟨rb, 0, none⟩)] 131 (0, 0))]) := (perm_of fun f => by (simp only [List.map_append, List.map_cons, List.map_nil, List.sum_append, List.sum_cons, List.sum_nil] <;> omega))
  rcases h2 : pSig r1 with _ | ⟨x2, r2⟩
  · refine Run.op1 (callRn Tryz.func150 (rdSig rb a l r1 hr1) hI hp2 h2 (fun k hk => ?_)) (fun y => y.elim)
    repeat first | refine RQ.thenPanic ?_ | refine RQ.blockPanic ?_
    exact RQ.panR (by simp [pSg, pMap, pAnd, h1, h2]) hk
  have hr2 := (good_sig).sfx hbl hr1 h2
  refine Run.op1 (callRs Tryz.func150 (rdSig rb a l r1 hr1) hI hp2 h2) (fun _ => ?_)
  dsimp only [List.append_nil, List.cons_append, List.nil_append]
  have hx8 : x2.c.toArray.size = 281 := by rw [List.size_toArray, SigD.len]
  refine x_ ?_
  refine Run.op1 (ostE (arr := (SgD.c ⟨x1, SigD.nul⟩).toArray) (e := 188) (L' := [(rb, RdS a l r2), (b2, Obj.cells ti188.zero.cells 188 (0, 0)), (b1, Obj.cells #[.pointer (some ⟨rb, 0, none⟩)] 131 (0, 0))]) (SgD.c ⟨x1, x2⟩).toArray (hL := (perm_of fun f => by (simp only [List.map_append, List.map_cons, List.map_nil, List.sum_append, List.sum_cons, List.sum_nil] <;> omega))) (hs := by exact hx8) (he := by exact sd_w1 _ _ _) (hf := by rw [List.size_toArray, SgD.len]; decide) (h1 := by exact x2.one)) (fun _ => ?_)
  have hsz : (SgD.c ⟨x1, x2⟩).toArray.size = 282 := by rw [List.size_toArray, SgD.len]
  refine x_ ?_
  refine Run.op1 (osa (arr := ti188.zero.cells) (e := 188) (L' := [(b3, Obj.cells (SgD.c ⟨x1, x2⟩).toArray 188 (0, 0)), (rb, RdS a l r2), (b1, Obj.cells #[.pointer (some ⟨rb, 0, none⟩)] 131 (0, 0))]) (SgD.c ⟨x1, x2⟩).toArray (SgD.one _) (hL := (perm_of fun f => by (simp only [List.map_append, List.map_cons, List.map_nil, List.sum_append, List.sum_cons, List.sum_nil] <;> omega))) (hs := by exact hsz)) (fun _ => ?_)
  refine x_ ?_
  exact RQ.ret1 rfl (Res.cellAll tabOk rfl rfl rfl m0 hsz) fun w' hm => RdsQ.fin (r' := r2) (show pSg r = some (⟨x1, x2⟩, r2) from by simp [pSg, pMap, pAnd, h1, h2]) () hm (Lr := [(b2, Obj.cells (SgD.c ⟨x1, x2⟩).toArray 188 (0, 0)), (b3, Obj.cells (SgD.c ⟨x1, x2⟩).toArray 188 (0, 0)), (b1, Obj.cells #[.pointer (some ⟨rb, 0, none⟩)] 131 (0, 0))]) (perm_of fun f => by (simp only [List.map_append, List.map_cons, List.map_nil, List.sum_append, List.sum_cons, List.sum_nil] <;> omega))
theorem clE (sd ac : Int) (o : By 8) (am no : Int) (pf : By 128) : ClD.c ⟨sd, ac, o, am, no, pf⟩ = .int .i64 sd :: .int .i64 ac :: (u8s o.1 ++ (.int .i64 am :: .int .i64 no :: u8s pf.1)) := rfl
theorem cl_w1 (sd ac : Int) (o : By 8) (am no : Int) (pf : By 128) (b : Int) : wrAt (ClD.c ⟨sd, ac, o, am, no, pf⟩).toArray 1 [.int .i64 b] = (ClD.c ⟨sd, b, o, am, no, pf⟩).toArray := wr_at' (pre := [.int .i64 sd]) (old := [.int .i64 ac]) (post := u8s o.1 ++ (.int .i64 am :: .int .i64 no :: u8s pf.1)) rfl rfl rfl rfl
theorem cl_w2 (sd ac : Int) (o : By 8) (am no : Int) (pf : By 128) (b : By 8) : wrAt (ClD.c ⟨sd, ac, o, am, no, pf⟩).toArray 2 (u8s b.1) = (ClD.c ⟨sd, ac, b, am, no, pf⟩).toArray := wr_at' (pre := [.int .i64 sd, .int .i64 ac]) (old := u8s o.1) (post := .int .i64 am :: .int .i64 no :: u8s pf.1) rfl rfl (by rw [u8s_len, u8s_len, o.2.1, b.2.1]) rfl
theorem cl_w10 (sd ac : Int) (o : By 8) (am no : Int) (pf : By 128) (b : Int) : wrAt (ClD.c ⟨sd, ac, o, am, no, pf⟩).toArray 10 [.int .i64 b] = (ClD.c ⟨sd, ac, o, b, no, pf⟩).toArray := wr_at' (pre := .int .i64 sd :: .int .i64 ac :: u8s o.1) (old := [.int .i64 am]) (post := .int .i64 no :: u8s pf.1) rfl rfl rfl (by simp only [List.length_cons, u8s_len, o.2.1])
theorem cl_w11 (sd ac : Int) (o : By 8) (am no : Int) (pf : By 128) (b : Int) : wrAt (ClD.c ⟨sd, ac, o, am, no, pf⟩).toArray 11 [.int .i64 b] = (ClD.c ⟨sd, ac, o, am, b, pf⟩).toArray := wr_at' (pre := .int .i64 sd :: .int .i64 ac :: (u8s o.1 ++ [.int .i64 am])) (old := [.int .i64 no]) (post := u8s pf.1) (by rw [clE]; simp only [List.cons_append, List.append_assoc, List.nil_append]) (by rw [clE]; simp only [List.cons_append, List.append_assoc, List.nil_append]) rfl (by simp only [List.length_cons, List.length_append, List.length_nil, u8s_len, o.2.1])
theorem cl_at12 (sd ac : Int) (o : By 8) (am no : Int) (pf : By 128) : ∃ pre old post, ClD.c ⟨sd, ac, o, am, no, pf⟩ = pre ++ (old ++ post) ∧ (∀ x : By 128, ClD.c ⟨sd, ac, o, am, no, x⟩ = pre ++ (u8s x.1 ++ post)) ∧ old.length = 16 * 8 ∧ pre.length = 12 := ⟨.int .i64 sd :: .int .i64 ac :: (u8s o.1 ++ [.int .i64 am, .int .i64 no]), u8s pf.1, [], by rw [clE]; simp only [List.cons_append, List.append_assoc, List.nil_append, List.append_nil], fun x => by rw [clE]; simp only [List.cons_append, List.append_assoc, List.nil_append, List.append_nil], by rw [u8s_len, pf.2.1], by simp only [List.length_cons, List.length_append, List.length_nil, u8s_len, o.2.1]⟩
theorem rdCl (rb : Nat) (a : Option Addr) (l r : List Nat) (hr : r <:+ l) : RdsC 123 [.agg #[.pointer (some ⟨rb, 0, none⟩)]] rb a l r [] (pCl r) (fun _ => Unit) (fun x _ => .agg x.c.toArray) (fun _ _ => []) := by
  intro w hI hw hnd
  refine enter Tryz.func123 rfl (Mem.init (S0 := rb :: ([] : Hp).map (·.1)) hw (fun p hp => List.mem_map_of_mem hp) hnd) rfl ?_
  have hbl := hI.bt
  refine z_ ?_
  refine Run.nw nbx ?_
  intro b1
  refine x_ ?_
  refine Run.nw nal ?_
  intro b2
  refine x_ ?_
  have hp1 : ([(b2, Obj.cells ti62.zero.cells 62 (0, 0)), (b1, Obj.cells #[.pointer (some ⟨rb, 0, none⟩)] 131 (0, 0)), (rb, RdS a l r)] : Hp).Perm (((rb, RdS a l r) :: []) ++ [(b2, Obj.cells ti62.zero.cells 62 (0, 0)), (b1, Obj.cells #[.pointer (some ⟨rb, 0, none⟩)] 131 (0, 0))]) := (perm_of fun f => by (simp only [List.map_append, List.map_cons, List.map_nil, List.sum_append, List.sum_cons, List.sum_nil] <;> omega))
  rcases h1 : pN 1 r with _ | ⟨x1, r1⟩
  · refine Run.op1 (callRn Tryz.func44 (rdNum 1 (by decide) rb a l r hr) hI hp1 h1 (fun k hk => ?_)) (fun y => y.elim)
    repeat first | refine RQ.thenPanic ?_ | refine RQ.blockPanic ?_
    exact RQ.panR (by simp [pCl, pMap, pAnd, h1]) hk
  have hr1 := (good_N 1).sfx hbl hr h1
  refine Run.op1 (callRs Tryz.func44 (rdNum 1 (by decide) rb a l r hr) hI hp1 h1) (fun _ => ?_)
  dsimp only [List.append_nil, List.cons_append, List.nil_append]
  refine x_ ?_
  refine Run.a (vbs (ClD.c ⟨x1, 0, By.z 8, 0, 0, By.z 128⟩).toArray) ?_
  refine x_ ?_
  refine Run.nw nal ?_
  intro b3
  refine x_ ?_
  refine Run.op1 (osa (arr := ti62.zero.cells) (e := 62) (L' := [(rb, RdS a l r1), (b2, Obj.cells ti62.zero.cells 62 (0, 0)), (b1, Obj.cells #[.pointer (some ⟨rb, 0, none⟩)] 131 (0, 0))]) (ClD.c ⟨x1, 0, By.z 8, 0, 0, By.z 128⟩).toArray (ClD.one _) (hL := (perm_of fun f => by (simp only [List.map_append, List.map_cons, List.map_nil, List.sum_append, List.sum_cons, List.sum_nil] <;> omega)))) (fun _ => ?_)
  refine x_ ?_
  have hp2 : ([(b3, Obj.cells (ClD.c ⟨x1, 0, By.z 8, 0, 0, By.z 128⟩).toArray 62 (0, 0)), (rb, RdS a l r1), (b2, Obj.cells ti62.zero.cells 62 (0, 0)), (b1, Obj.cells #[.pointer (some ⟨rb, 0, none⟩)] 131 (0, 0))] : Hp).Perm (((rb, RdS a l r1) :: []) ++ [(b3, Obj.cells (ClD.c ⟨x1, 0, By.z 8, 0, 0, By.z 128⟩).toArray 62 (0, 0)), (b2, Obj.cells ti62.zero.cells 62 (0, 0)), (b1, Obj.cells #[.pointer (some ⟨rb, 0, none⟩)] 131 (0, 0))]) := (perm_of fun f => by (simp only [List.map_append, List.map_cons, List.map_nil, List.sum_append, List.sum_cons, List.sum_nil] <;> omega))
  rcases h2 : pN 2 r1 with _ | ⟨x2, r2⟩
  · refine Run.op1 (callRn Tryz.func44 (rdNum 2 (by decide) rb a l r1 hr1) hI hp2 h2 (fun k hk => ?_)) (fun y => y.elim)
    repeat first | refine RQ.thenPanic ?_ | refine RQ.blockPanic ?_
    exact RQ.panR (by simp [pCl, pMap, pAnd, h1, h2]) hk
  have hr2 := (good_N 2).sfx hbl hr1 h2
  refine Run.op1 (callRs Tryz.func44 (rdNum 2 (by decide) rb a l r1 hr1) hI hp2 h2) (fun _ => ?_)
  dsimp only [List.append_nil, List.cons_append, List.nil_append]
  refine x_ ?_
  refine Run.op1 (ostE (arr := (ClD.c ⟨x1, 0, By.z 8, 0, 0, By.z 128⟩).toArray) (e := 62) (L' := [(rb, RdS a l r2), (b2, Obj.cells ti62.zero.cells 62 (0, 0)), (b1, Obj.cells #[.pointer (some ⟨rb, 0, none⟩)] 131 (0, 0))]) (ClD.c ⟨x1, x2, By.z 8, 0, 0, By.z 128⟩).toArray (hL := (perm_of fun f => by (simp only [List.map_append, List.map_cons, List.map_nil, List.sum_append, List.sum_cons, List.sum_nil] <;> omega))) (he := by exact cl_w1 _ _ _ _ _ _ _) (hf := by rw [List.size_toArray, ClD.len]; decide) (h1 := by exact one_i _ _)) (fun _ => ?_)
  refine x_ ?_
  have hp3 : ([(b3, Obj.cells (ClD.c ⟨x1, x2, By.z 8, 0, 0, By.z 128⟩).toArray 62 (0, 0)), (rb, RdS a l r2), (b2, Obj.cells ti62.zero.cells 62 (0, 0)), (b1, Obj.cells #[.pointer (some ⟨rb, 0, none⟩)] 131 (0, 0))] : Hp).Perm (((rb, RdS a l r2) :: []) ++ [(b3, Obj.cells (ClD.c ⟨x1, x2, By.z 8, 0, 0, By.z 128⟩).toArray 62 (0, 0)), (b2, Obj.cells ti62.zero.cells 62 (0, 0)), (b1, Obj.cells #[.pointer (some ⟨rb, 0, none⟩)] 131 (0, 0))]) := (perm_of fun f => by (simp only [List.map_append, List.map_cons, List.map_nil, List.sum_append, List.sum_cons, List.sum_nil] <;> omega))
  rcases h3 : pB 8 r2 with _ | ⟨x3, r3⟩
  · refine Run.op1 (callRn Tryz.func42 (rdHash rb a l r2 hr2) hI hp3 h3 (fun k hk => ?_)) (fun y => y.elim)
    repeat first | refine RQ.thenPanic ?_ | refine RQ.blockPanic ?_
    exact RQ.panR (by simp [pCl, pMap, pAnd, h1, h2, h3]) hk
  have hr3 := (good_B 8).sfx hbl hr2 h3
  refine Run.op1 (callRs Tryz.func42 (rdHash rb a l r2 hr2) hI hp3 h3) (fun _ => ?_)
  dsimp only [List.append_nil, List.cons_append, List.nil_append]
  refine x_ ?_
  refine Run.op1 (ostE (arr := (ClD.c ⟨x1, x2, By.z 8, 0, 0, By.z 128⟩).toArray) (e := 62) (L' := [(rb, RdS a l r3), (b2, Obj.cells ti62.zero.cells 62 (0, 0)), (b1, Obj.cells #[.pointer (some ⟨rb, 0, none⟩)] 131 (0, 0))]) (ClD.c ⟨x1, x2, x3, 0, 0, By.z 128⟩).toArray (hL := (perm_of fun f => by (simp only [List.map_append, List.map_cons, List.map_nil, List.sum_append, List.sum_cons, List.sum_nil] <;> omega))) (he := by exact cl_w2 _ _ _ _ _ _ _) (hf := by rw [List.size_toArray, ClD.len]; decide) (h1 := by exact u8s_one _) (hs := by show (u8s x3.1).toArray.size = 8; rw [List.size_toArray, u8s_len, x3.2.1])) (fun _ => ?_)
  refine x_ ?_
  have hp4 : ([(b3, Obj.cells (ClD.c ⟨x1, x2, x3, 0, 0, By.z 128⟩).toArray 62 (0, 0)), (rb, RdS a l r3), (b2, Obj.cells ti62.zero.cells 62 (0, 0)), (b1, Obj.cells #[.pointer (some ⟨rb, 0, none⟩)] 131 (0, 0))] : Hp).Perm (((rb, RdS a l r3) :: []) ++ [(b3, Obj.cells (ClD.c ⟨x1, x2, x3, 0, 0, By.z 128⟩).toArray 62 (0, 0)), (b2, Obj.cells ti62.zero.cells 62 (0, 0)), (b1, Obj.cells #[.pointer (some ⟨rb, 0, none⟩)] 131 (0, 0))]) := (perm_of fun f => by (simp only [List.map_append, List.map_cons, List.map_nil, List.sum_append, List.sum_cons, List.sum_nil] <;> omega))
  rcases h4 : pN 7 r3 with _ | ⟨x4, r4⟩
  · refine Run.op1 (callRn Tryz.func44 (rdNum 7 (by decide) rb a l r3 hr3) hI hp4 h4 (fun k hk => ?_)) (fun y => y.elim)
    repeat first | refine RQ.thenPanic ?_ | refine RQ.blockPanic ?_
    exact RQ.panR (by simp [pCl, pMap, pAnd, h1, h2, h3, h4]) hk
  have hr4 := (good_N 7).sfx hbl hr3 h4
  refine Run.op1 (callRs Tryz.func44 (rdNum 7 (by decide) rb a l r3 hr3) hI hp4 h4) (fun _ => ?_)
  dsimp only [List.append_nil, List.cons_append, List.nil_append]
  refine x_ ?_
  refine Run.op1 (ostE (arr := (ClD.c ⟨x1, x2, x3, 0, 0, By.z 128⟩).toArray) (e := 62) (L' := [(rb, RdS a l r4), (b2, Obj.cells ti62.zero.cells 62 (0, 0)), (b1, Obj.cells #[.pointer (some ⟨rb, 0, none⟩)] 131 (0, 0))]) (ClD.c ⟨x1, x2, x3, x4, 0, By.z 128⟩).toArray (hL := (perm_of fun f => by (simp only [List.map_append, List.map_cons, List.map_nil, List.sum_append, List.sum_cons, List.sum_nil] <;> omega))) (he := by exact cl_w10 _ _ _ _ _ _ _) (hf := by rw [List.size_toArray, ClD.len]; decide) (h1 := by exact one_i _ _)) (fun _ => ?_)
  refine x_ ?_
  have hp5 : ([(b3, Obj.cells (ClD.c ⟨x1, x2, x3, x4, 0, By.z 128⟩).toArray 62 (0, 0)), (rb, RdS a l r4), (b2, Obj.cells ti62.zero.cells 62 (0, 0)), (b1, Obj.cells #[.pointer (some ⟨rb, 0, none⟩)] 131 (0, 0))] : Hp).Perm (((rb, RdS a l r4) :: []) ++ [(b3, Obj.cells (ClD.c ⟨x1, x2, x3, x4, 0, By.z 128⟩).toArray 62 (0, 0)), (b2, Obj.cells ti62.zero.cells 62 (0, 0)), (b1, Obj.cells #[.pointer (some ⟨rb, 0, none⟩)] 131 (0, 0))]) := (perm_of fun f => by (simp only [List.map_append, List.map_cons, List.map_nil, List.sum_append, List.sum_cons, List.sum_nil] <;> omega))
  rcases h5 : pN 1 r4 with _ | ⟨x5, r5⟩
  · refine Run.op1 (callRn Tryz.func44 (rdNum 1 (by decide) rb a l r4 hr4) hI hp5 h5 (fun k hk => ?_)) (fun y => y.elim)
    repeat first | refine RQ.thenPanic ?_ | refine RQ.blockPanic ?_
    exact RQ.panR (by simp [pCl, pMap, pAnd, h1, h2, h3, h4, h5]) hk
  have hr5 := (good_N 1).sfx hbl hr4 h5
  refine Run.op1 (callRs Tryz.func44 (rdNum 1 (by decide) rb a l r4 hr4) hI hp5 h5) (fun _ => ?_)
  dsimp only [List.append_nil, List.cons_append, List.nil_append]
  refine x_ ?_
  refine Run.op1 (ostE (arr := (ClD.c ⟨x1, x2, x3, x4, 0, By.z 128⟩).toArray) (e := 62) (L' := [(rb, RdS a l r5), (b2, Obj.cells ti62.zero.cells 62 (0, 0)), (b1, Obj.cells #[.pointer (some ⟨rb, 0, none⟩)] 131 (0, 0))]) (ClD.c ⟨x1, x2, x3, x4, x5, By.z 128⟩).toArray (hL := (perm_of fun f => by (simp only [List.map_append, List.map_cons, List.map_nil, List.sum_append, List.sum_cons, List.sum_nil] <;> omega))) (he := by exact cl_w11 _ _ _ _ _ _ _) (hf := by rw [List.size_toArray, ClD.len]; decide) (h1 := by exact one_i _ _)) (fun _ => ?_)
  refine x_ ?_
  (repeat refine RC.seq ?_); refine RC.draw ([(b1, Obj.cells #[.pointer (some ⟨rb, 0, none⟩)] 131 (0, 0))]) mixed (N := 4) rfl ?_
  refine dy 0 ?_
  refine dy 1 ?_
  refine DR.t 2 rfl (vslA) ?_
  have hp6 : ([(b3, Obj.cells (ClD.c ⟨x1, x2, x3, x4, x5, By.z 128⟩).toArray 62 (0, 0)), (rb, RdS a l r5), (b2, Obj.cells ti62.zero.cells 62 (0, 0)), (b1, Obj.cells #[.pointer (some ⟨rb, 0, none⟩)] 131 (0, 0))] : Hp).Perm (((rb, RdS a l r5) :: [(b3, Obj.cells (ClD.c ⟨x1, x2, x3, x4, x5, By.z 128⟩).toArray 62 (0, 0))]) ++ [(b2, Obj.cells ti62.zero.cells 62 (0, 0)), (b1, Obj.cells #[.pointer (some ⟨rb, 0, none⟩)] 131 (0, 0))]) := (perm_of fun f => by (simp only [List.map_append, List.map_cons, List.map_nil, List.sum_append, List.sum_cons, List.sum_nil] <;> omega))
  rcases h6 : pB 128 r5 with _ | ⟨x6, r6⟩
  · refine DR.c 3 (DOp.op1 rfl (callRn Tryz.func154 (rdRow2 16 (by decide) (ClD.c ⟨x1, x2, x3, x4, x5, By.z 128⟩) (fun x => ClD.c ⟨x1, x2, x3, x4, x5, x⟩) 12 (cl_at12 (x1) (x2) (x3) (x4) (x5) (By.z 128)) b3 62 rb a l r5 hr5) hI hp6 h6 (fun k hk => ?_)) (fun y => y.elim) (hl := .inl fun y => y.elim))
    repeat first | refine RQ.thenPanic ?_ | refine RQ.blockPanic ?_
    exact RQ.panR (by simp [pCl, pMap, pAnd, h1, h2, h3, h4, h5, h6]) hk
  have hr6 := (good_B 128).sfx hbl hr5 h6
  refine DR.c 3 (DOp.op1 rfl (callRs Tryz.func154 (rdRow2 16 (by decide) (ClD.c ⟨x1, x2, x3, x4, x5, By.z 128⟩) (fun x => ClD.c ⟨x1, x2, x3, x4, x5, x⟩) 12 (cl_at12 (x1) (x2) (x3) (x4) (x5) (By.z 128)) b3 62 rb a l r5 hr5) hI hp6 h6) (fun _ => ?_))
  dsimp only [List.append_nil, List.cons_append, List.nil_append]
  refine DR.done (by kernel_rfl) ?_
  have hsz : (ClD.c ⟨x1, x2, x3, x4, x5, x6⟩).toArray.size = 140 := by rw [List.size_toArray, ClD.len]
  refine x_ ?_
  refine Run.op1 (osa (arr := ti62.zero.cells) (e := 62) (L' := [(rb, RdS a l r6), (b3, Obj.cells (ClD.c ⟨x1, x2, x3, x4, x5, x6⟩).toArray 62 (0, 0)), (b1, Obj.cells #[.pointer (some ⟨rb, 0, none⟩)] 131 (0, 0))]) (ClD.c ⟨x1, x2, x3, x4, x5, x6⟩).toArray (ClD.one _) (hL := (perm_of fun f => by (simp only [List.map_append, List.map_cons, List.map_nil, List.sum_append, List.sum_cons, List.sum_nil] <;> omega))) (hs := by exact hsz)) (fun _ => ?_)
  refine x_ ?_
  exact RQ.ret1 rfl (Res.cellAll tabOk rfl rfl rfl m0 hsz) fun w' hm => RdsQ.fin (r' := r6) (show pCl r = some (⟨x1, x2, x3, x4, x5, x6⟩, r6) from by simp [pCl, pMap, pAnd, h1, h2, h3, h4, h5, h6]) () hm (Lr := [(b2, Obj.cells (ClD.c ⟨x1, x2, x3, x4, x5, x6⟩).toArray 62 (0, 0)), (b3, Obj.cells (ClD.c ⟨x1, x2, x3, x4, x5, x6⟩).toArray 62 (0, 0)), (b1, Obj.cells #[.pointer (some ⟨rb, 0, none⟩)] 131 (0, 0))]) (perm_of fun f => by (simp only [List.map_append, List.map_cons, List.map_nil, List.sum_append, List.sum_cons, List.sum_nil] <;> omega))
end Go.Proofs.YtfoeakgnkfcbjaaGreatDoor

/- tx: the reader: in, lists (gen_ty1.py prints it). -/
namespace Go.Vc
open Go Go.Sha
theorem fill_two' {place : Nat → Option (Nat × Nat)} {z : Array Value} {u v : Value} {F : List Value} {a b : Nat} (h0 : place 0 = some (0, a)) (h1 : place 1 = some (a, b)) (hu : u.cells.size = a) (hv : v.cells.size = b) (hz : a + b ≤ z.size) (hF : u.cells.toList ++ (v.cells.toList ++ z.toList.drop (a + b)) = F) :
    Instr.fill place z [(0, u), (1, v)] = some F.toArray := by
  have e0 : wrAt z 0 u.cells.toList = (u.cells.toList ++ z.toList.drop a).toArray := by
    unfold wrAt
    simp [hu]
  rw [fill_step (off := 0) (by rw [h0, hu]) (by omega), e0]
  rw [fill_step (off := a) (by rw [h1, hv]) (by simp [hu]; omega)]
  have e1 : wrAt (u.cells.toList ++ z.toList.drop a).toArray a v.cells.toList = F.toArray := by
    refine wr_at' (pre := u.cells.toList) (old := (z.toList.drop a).take b) (post := z.toList.drop (a + b)) ?_ hF.symm (by rw [List.length_take, List.length_drop, Array.length_toList, Array.length_toList, hv]; omega) (by rw [Array.length_toList, hu])
    rw [← List.drop_drop, List.take_append_drop]
  rw [e1]
  rfl
end Go.Vc
namespace Go.Proofs.YtfoeakgnkfcbjaaGreatDoor
attribute [local irreducible] Go.Vc.Run Go.Vc.RC Go.Vc.RQ Go.Vc.DR Go.Vc.DOp Go.Vc.Knows Go.Vc.At
set_option maxHeartbeats 400000
set_option maxRecDepth 10000
open Go Go.Vc Go.Sha
def ptC (t : By 8) (i : Int) : List Value := u8s t.1 ++ [.int .i64 i]
theorem ptC_len (t : By 8) (i : Int) : (ptC t i).length = 9 := by unfold ptC; rw [List.length_append, u8s_len, t.2.1]; rfl
theorem ptC_one (t : By 8) (i : Int) : ∀ u ∈ ptC t i, u.oneCell' = true := by
  intro u hu
  unfold ptC at hu
  rcases List.mem_append.1 hu with hu | hu
  · exact u8s_one _ u hu
  · rw [List.mem_singleton] at hu; subst hu; rfl
theorem pt_w8 (t : By 8) (a b : Int) : wrAt (ptC t a).toArray 8 [.int .i64 b] = (ptC t b).toArray := wr_at' (pre := u8s t.1) (old := [.int .i64 a]) (post := []) (by rw [List.append_nil]; rfl) (by rw [List.append_nil]; rfl) rfl (by rw [u8s_len, t.2.1])
theorem inE (t : By 8) (i : Int) (k : By 8) (s : SigD) : InD.c ⟨t, i, k, s⟩ = ptC t i ++ (u8s k.1 ++ s.c) := by unfold InD.c ptC; simp only [List.append_assoc, List.cons_append, List.nil_append]
theorem in_w17 (t : By 8) (i : Int) (k : By 8) (s q : SigD) : wrAt (InD.c ⟨t, i, k, s⟩).toArray 17 q.c = (InD.c ⟨t, i, k, q⟩).toArray := wr_at' (pre := ptC t i ++ u8s k.1) (old := s.c) (post := []) (by rw [inE, List.append_nil, List.append_assoc]) (by rw [inE, List.append_nil, List.append_assoc]) (by rw [SigD.len, SigD.len]) (by rw [List.length_append, ptC_len, u8s_len, k.2.1])
theorem rdIn (rb : Nat) (a : Option Addr) (l r : List Nat) (hr : r <:+ l) : RdsC 118 [.agg #[.pointer (some ⟨rb, 0, none⟩)]] rb a l r [] (pIn r) (fun _ => Unit) (fun x _ => .agg x.c.toArray) (fun _ _ => []) := by
  intro w hI hw hnd
  refine enter Tryz.func118 rfl (Mem.init (S0 := rb :: ([] : Hp).map (·.1)) hw (fun p hp => List.mem_map_of_mem hp) hnd) rfl ?_
  have hbl := hI.bt
  refine z_ ?_
  refine Run.nw nbx ?_
  intro b1
  refine x_ ?_
  refine Run.nw nal ?_
  intro b2
  refine x_ ?_
  have hp1 : ([(b2, Obj.cells ti173.zero.cells 173 (0, 0)), (b1, Obj.cells #[.pointer (some ⟨rb, 0, none⟩)] 131 (0, 0)), (rb, RdS a l r)] : Hp).Perm (((rb, RdS a l r) :: []) ++ [(b2, Obj.cells ti173.zero.cells 173 (0, 0)), (b1, Obj.cells #[.pointer (some ⟨rb, 0, none⟩)] 131 (0, 0))]) := (perm_of fun f => by (simp only [List.map_append, List.map_cons, List.map_nil, List.sum_append, List.sum_cons, List.sum_nil] <;> omega))
  rcases h1 : pB 8 r with _ | ⟨x1, r1⟩
  · refine Run.op1 (callRn Tryz.func42 (rdHash rb a l r hr) hI hp1 h1 (fun k hk => ?_)) (fun y => y.elim)
    repeat first | refine RQ.thenPanic ?_ | refine RQ.blockPanic ?_
    exact RQ.panR (by simp [pIn, pMap, pAnd, h1]) hk
  have hr1 := (good_B 8).sfx hbl hr h1
  refine Run.op1 (callRs Tryz.func42 (rdHash rb a l r hr) hI hp1 h1) (fun _ => ?_)
  dsimp only [List.append_nil, List.cons_append, List.nil_append]
  have hx8 : (u8s x1.1).length = 8 := by rw [u8s_len, x1.2.1]
  refine x_ ?_
  refine Run.a (vbs (ptC x1 0).toArray (hf := by exact fill_first (F := ptC x1 0) rfl (show (u8s x1.1).toArray.size = 8 by rw [List.size_toArray, hx8]) (by decide) rfl)) ?_
  refine x_ ?_
  refine Run.nw nal ?_
  intro b3
  have hsz0 : (ptC x1 0).toArray.size = 9 := by rw [List.size_toArray, ptC_len]
  refine x_ ?_
  refine Run.op1 (osa (arr := ti168.zero.cells) (e := 168) (L' := [(rb, RdS a l r1), (b2, Obj.cells ti173.zero.cells 173 (0, 0)), (b1, Obj.cells #[.pointer (some ⟨rb, 0, none⟩)] 131 (0, 0))]) (ptC x1 0).toArray (ptC_one _ _) (hL := (perm_of fun f => by (simp only [List.map_append, List.map_cons, List.map_nil, List.sum_append, List.sum_cons, List.sum_nil] <;> omega))) (hs := by exact hsz0)) (fun _ => ?_)
  refine x_ ?_
  have hp2 : ([(b3, Obj.cells (ptC x1 0).toArray 168 (0, 0)), (rb, RdS a l r1), (b2, Obj.cells ti173.zero.cells 173 (0, 0)), (b1, Obj.cells #[.pointer (some ⟨rb, 0, none⟩)] 131 (0, 0))] : Hp).Perm (((rb, RdS a l r1) :: []) ++ [(b3, Obj.cells (ptC x1 0).toArray 168 (0, 0)), (b2, Obj.cells ti173.zero.cells 173 (0, 0)), (b1, Obj.cells #[.pointer (some ⟨rb, 0, none⟩)] 131 (0, 0))]) := (perm_of fun f => by (simp only [List.map_append, List.map_cons, List.map_nil, List.sum_append, List.sum_cons, List.sum_nil] <;> omega))
  rcases h2 : pN 1 r1 with _ | ⟨x2, r2⟩
  · refine Run.op1 (callRn Tryz.func44 (rdNum 1 (by decide) rb a l r1 hr1) hI hp2 h2 (fun k hk => ?_)) (fun y => y.elim)
    repeat first | refine RQ.thenPanic ?_ | refine RQ.blockPanic ?_
    exact RQ.panR (by simp [pIn, pMap, pAnd, h1, h2]) hk
  have hr2 := (good_N 1).sfx hbl hr1 h2
  refine Run.op1 (callRs Tryz.func44 (rdNum 1 (by decide) rb a l r1 hr1) hI hp2 h2) (fun _ => ?_)
  dsimp only [List.append_nil, List.cons_append, List.nil_append]
  refine x_ ?_
  refine Run.op1 (ostE (arr := (ptC x1 0).toArray) (e := 168) (L' := [(rb, RdS a l r2), (b2, Obj.cells ti173.zero.cells 173 (0, 0)), (b1, Obj.cells #[.pointer (some ⟨rb, 0, none⟩)] 131 (0, 0))]) (ptC x1 x2).toArray (hL := (perm_of fun f => by (simp only [List.map_append, List.map_cons, List.map_nil, List.sum_append, List.sum_cons, List.sum_nil] <;> omega))) (he := by exact pt_w8 x1 0 x2) (hf := by rw [hsz0]; decide) (h1 := by exact one_i _ _)) (fun _ => ?_)
  have hsp : (ptC x1 x2).toArray.size = 9 := by rw [List.size_toArray, ptC_len]
  refine x_ ?_
  have hp3 : ([(b3, Obj.cells (ptC x1 x2).toArray 168 (0, 0)), (rb, RdS a l r2), (b2, Obj.cells ti173.zero.cells 173 (0, 0)), (b1, Obj.cells #[.pointer (some ⟨rb, 0, none⟩)] 131 (0, 0))] : Hp).Perm (((rb, RdS a l r2) :: []) ++ [(b3, Obj.cells (ptC x1 x2).toArray 168 (0, 0)), (b2, Obj.cells ti173.zero.cells 173 (0, 0)), (b1, Obj.cells #[.pointer (some ⟨rb, 0, none⟩)] 131 (0, 0))]) := (perm_of fun f => by (simp only [List.map_append, List.map_cons, List.map_nil, List.sum_append, List.sum_cons, List.sum_nil] <;> omega))
  rcases h3 : pB 8 r2 with _ | ⟨x3, r3⟩
  · (repeat refine RC.seq ?_); refine RC.draw ([(b3, Obj.cells (ptC x1 x2).toArray 168 (0, 0)), (b1, Obj.cells #[.pointer (some ⟨rb, 0, none⟩)] 131 (0, 0))]) mixed (N := 7) rfl ?_
    refine DR.t 0 rfl (vla (hv := hsp)) ?_
    refine dy 1 ?_
    refine dy 2 ?_
    refine DR.two (i := 3) (j := 5) (by kernel_rfl) ?_ ?_
    · refine DOp.op1 rfl (callRn Tryz.func42 (rdHash rb a l r2 hr2) hI hp3 h3 (fun k hk => ?_)) (fun y => y.elim) (hl := .inl fun y => y.elim)
      repeat first | refine RQ.thenPanic ?_ | refine RQ.blockPanic ?_
      exact RQ.panR (by simp [pIn, pMap, pAnd, h1, h2, h3]) hk
    · refine DOp.op1 rfl (OpTo.new rfl rfl (nal)) ?_
      intro b4
      have hp4 : ([(b4, Obj.cells ti173.zero.cells 173 (0, 0)), (b3, Obj.cells (ptC x1 x2).toArray 168 (0, 0)), (rb, RdS a l r2), (b2, Obj.cells ti173.zero.cells 173 (0, 0)), (b1, Obj.cells #[.pointer (some ⟨rb, 0, none⟩)] 131 (0, 0))] : Hp).Perm (((rb, RdS a l r2) :: []) ++ [(b4, Obj.cells ti173.zero.cells 173 (0, 0)), (b3, Obj.cells (ptC x1 x2).toArray 168 (0, 0)), (b2, Obj.cells ti173.zero.cells 173 (0, 0)), (b1, Obj.cells #[.pointer (some ⟨rb, 0, none⟩)] 131 (0, 0))]) := (perm_of fun f => by (simp only [List.map_append, List.map_cons, List.map_nil, List.sum_append, List.sum_cons, List.sum_nil] <;> omega))
      refine DR.c 3 (DOp.op1 rfl (callRn Tryz.func42 (rdHash rb a l r2 hr2) hI hp4 h3 (fun k hk => ?_)) (fun y => y.elim) (hl := .inl fun y => y.elim))
      repeat first | refine RQ.thenPanic ?_ | refine RQ.blockPanic ?_
      exact RQ.panR (by simp [pIn, pMap, pAnd, h1, h2, h3]) hk
  have hr3 := (good_B 8).sfx hbl hr2 h3
  have hx9 : (u8s x3.1).length = 8 := by rw [u8s_len, x3.2.1]
  have hsi : (InD.c ⟨x1, x2, x3, SigD.nul⟩).toArray.size = 298 := by rw [List.size_toArray, InD.len]
  refine RC.thenCut (Y := Nat) (fun b4 => [(4, .pointer (some ⟨b4, 0, none⟩)), (2, .pointer (some ⟨b2, 0, none⟩)), (1, .pointer (some ⟨b1, 0, none⟩))]) (fun b4 => [(b4, Obj.cells (InD.c ⟨x1, x2, x3, SigD.nul⟩).toArray 173 (0, 0)), (rb, RdS a l r3), (b2, Obj.cells ti173.zero.cells 173 (0, 0)), (b1, Obj.cells #[.pointer (some ⟨rb, 0, none⟩)] 131 (0, 0))]) ?_ (fun b4 => ?_)
  · (repeat refine RC.seq ?_); refine RC.draw ([(b3, Obj.cells (ptC x1 x2).toArray 168 (0, 0)), (b1, Obj.cells #[.pointer (some ⟨rb, 0, none⟩)] 131 (0, 0))]) mixed (N := 7) rfl ?_
    refine DR.t 0 rfl (vla (hv := hsp)) ?_
    refine dy 1 ?_
    refine dy 2 ?_
    refine DR.two (i := 3) (j := 5) (by kernel_rfl) ?_ ?_
    · refine DOp.op1 rfl (callRs Tryz.func42 (rdHash rb a l r2 hr2) hI hp3 h3) (fun _ => ?_)
      dsimp only [List.append_nil, List.cons_append, List.nil_append]
      refine DR.t 4 rfl (vbs (InD.c ⟨x1, x2, x3, SigD.nul⟩).toArray (hf := by exact fill_two' (F := InD.c ⟨x1, x2, x3, SigD.nul⟩) (a := 9) (b := 8) rfl rfl (show (ptC x1 x2).toArray.size = 9 by exact hsp) (show (u8s x3.1).toArray.size = 8 by rw [List.size_toArray, hx9]) (by decide) ((inE x1 x2 x3 SigD.nul).symm))) ?_
      refine DR.c 5 ?_
      refine DOp.op1 rfl (OpTo.new rfl rfl (nal)) ?_
      intro b4
      refine DR.c 6 ?_
      refine DOp.op1 rfl (osa (arr := ti173.zero.cells) (e := 173) (L' := [(rb, RdS a l r3), (b3, Obj.cells (ptC x1 x2).toArray 168 (0, 0)), (b2, Obj.cells ti173.zero.cells 173 (0, 0)), (b1, Obj.cells #[.pointer (some ⟨rb, 0, none⟩)] 131 (0, 0))]) (InD.c ⟨x1, x2, x3, SigD.nul⟩).toArray (InD.one _) (hL := (perm_of fun f => by (simp only [List.map_append, List.map_cons, List.map_nil, List.sum_append, List.sum_cons, List.sum_nil] <;> omega))) (hs := by exact hsi)) (fun _ => ?_)
      refine DR.done (by kernel_rfl) ?_
      exact RQ.toP b4 ⟨rfl, rfl, rfl, trivial⟩ (List.Perm.refl _) (by repeat (first | exact List.nil_sublist _ | exact List.Sublist.refl _ | apply List.Sublist.cons_cons | apply List.Sublist.cons | apply Go.Vc.subApp))
    · refine DOp.op1 rfl (OpTo.new rfl rfl (nal)) ?_
      intro b4
      have hp4 : ([(b4, Obj.cells ti173.zero.cells 173 (0, 0)), (b3, Obj.cells (ptC x1 x2).toArray 168 (0, 0)), (rb, RdS a l r2), (b2, Obj.cells ti173.zero.cells 173 (0, 0)), (b1, Obj.cells #[.pointer (some ⟨rb, 0, none⟩)] 131 (0, 0))] : Hp).Perm (((rb, RdS a l r2) :: []) ++ [(b4, Obj.cells ti173.zero.cells 173 (0, 0)), (b3, Obj.cells (ptC x1 x2).toArray 168 (0, 0)), (b2, Obj.cells ti173.zero.cells 173 (0, 0)), (b1, Obj.cells #[.pointer (some ⟨rb, 0, none⟩)] 131 (0, 0))]) := (perm_of fun f => by (simp only [List.map_append, List.map_cons, List.map_nil, List.sum_append, List.sum_cons, List.sum_nil] <;> omega))
      refine DR.c 3 (DOp.op1 rfl (callRs Tryz.func42 (rdHash rb a l r2 hr2) hI hp4 h3) (fun _ => ?_))
      dsimp only [List.append_nil, List.cons_append, List.nil_append]
      refine DR.t 4 rfl (vbs (InD.c ⟨x1, x2, x3, SigD.nul⟩).toArray (hf := by exact fill_two' (F := InD.c ⟨x1, x2, x3, SigD.nul⟩) (a := 9) (b := 8) rfl rfl (show (ptC x1 x2).toArray.size = 9 by exact hsp) (show (u8s x3.1).toArray.size = 8 by rw [List.size_toArray, hx9]) (by decide) ((inE x1 x2 x3 SigD.nul).symm))) ?_
      refine DR.c 6 ?_
      refine DOp.op1 rfl (osa (arr := ti173.zero.cells) (e := 173) (L' := [(rb, RdS a l r3), (b3, Obj.cells (ptC x1 x2).toArray 168 (0, 0)), (b2, Obj.cells ti173.zero.cells 173 (0, 0)), (b1, Obj.cells #[.pointer (some ⟨rb, 0, none⟩)] 131 (0, 0))]) (InD.c ⟨x1, x2, x3, SigD.nul⟩).toArray (InD.one _) (hL := (perm_of fun f => by (simp only [List.map_append, List.map_cons, List.map_nil, List.sum_append, List.sum_cons, List.sum_nil] <;> omega))) (hs := by exact hsi)) (fun _ => ?_)
      refine DR.done (by kernel_rfl) ?_
      exact RQ.toP b4 ⟨rfl, rfl, rfl, trivial⟩ (List.Perm.refl _) (by repeat (first | exact List.nil_sublist _ | exact List.Sublist.refl _ | apply List.Sublist.cons_cons | apply List.Sublist.cons | apply Go.Vc.subApp))
  refine x_ ?_
  have hp4 : ([(b4, Obj.cells (InD.c ⟨x1, x2, x3, SigD.nul⟩).toArray 173 (0, 0)), (rb, RdS a l r3), (b2, Obj.cells ti173.zero.cells 173 (0, 0)), (b1, Obj.cells #[.pointer (some ⟨rb, 0, none⟩)] 131 (0, 0))] : Hp).Perm (((rb, RdS a l r3) :: []) ++ [(b4, Obj.cells (InD.c ⟨x1, x2, x3, SigD.nul⟩).toArray 173 (0, 0)), (b2, Obj.cells ti173.zero.cells 173 (0, 0)), (b1, Obj.cells #[.pointer (some ⟨rb, 0, none⟩)] 131 (0, 0))]) := (perm_of fun f => by (simp only [List.map_append, List.map_cons, List.map_nil, List.sum_append, List.sum_cons, List.sum_nil] <;> omega))
  rcases h4 : pSig r3 with _ | ⟨x4, r4⟩
  · refine Run.op1 (callRn Tryz.func150 (rdSig rb a l r3 hr3) hI hp4 h4 (fun k hk => ?_)) (fun y => y.elim)
    repeat first | refine RQ.thenPanic ?_ | refine RQ.blockPanic ?_
    exact RQ.panR (by simp [pIn, pMap, pAnd, h1, h2, h3, h4]) hk
  have hr4 := (good_sig).sfx hbl hr3 h4
  refine Run.op1 (callRs Tryz.func150 (rdSig rb a l r3 hr3) hI hp4 h4) (fun _ => ?_)
  dsimp only [List.append_nil, List.cons_append, List.nil_append]
  have hx7 : x4.c.toArray.size = 281 := by rw [List.size_toArray, SigD.len]
  refine x_ ?_
  refine Run.op1 (ostE (arr := (InD.c ⟨x1, x2, x3, SigD.nul⟩).toArray) (e := 173) (L' := [(rb, RdS a l r4), (b2, Obj.cells ti173.zero.cells 173 (0, 0)), (b1, Obj.cells #[.pointer (some ⟨rb, 0, none⟩)] 131 (0, 0))]) (InD.c ⟨x1, x2, x3, x4⟩).toArray (hL := (perm_of fun f => by (simp only [List.map_append, List.map_cons, List.map_nil, List.sum_append, List.sum_cons, List.sum_nil] <;> omega))) (hs := by exact hx7) (he := by exact in_w17 _ _ _ _ _) (hf := by rw [hsi]; decide) (h1 := by exact x4.one)) (fun _ => ?_)
  have hsz : (InD.c ⟨x1, x2, x3, x4⟩).toArray.size = 298 := by rw [List.size_toArray, InD.len]
  refine x_ ?_
  refine Run.op1 (osa (arr := ti173.zero.cells) (e := 173) (L' := [(b4, Obj.cells (InD.c ⟨x1, x2, x3, x4⟩).toArray 173 (0, 0)), (rb, RdS a l r4), (b1, Obj.cells #[.pointer (some ⟨rb, 0, none⟩)] 131 (0, 0))]) (InD.c ⟨x1, x2, x3, x4⟩).toArray (InD.one _) (hL := (perm_of fun f => by (simp only [List.map_append, List.map_cons, List.map_nil, List.sum_append, List.sum_cons, List.sum_nil] <;> omega))) (hs := by exact hsz)) (fun _ => ?_)
  refine x_ ?_
  exact RQ.ret1 rfl (Res.cellAll tabOk rfl rfl rfl m0 hsz) fun w' hm => RdsQ.fin (r' := r4) (show pIn r = some (⟨x1, x2, x3, x4⟩, r4) from by simp [pIn, pMap, pAnd, h1, h2, h3, h4]) () hm (Lr := [(b2, Obj.cells (InD.c ⟨x1, x2, x3, x4⟩).toArray 173 (0, 0)), (b4, Obj.cells (InD.c ⟨x1, x2, x3, x4⟩).toArray 173 (0, 0)), (b1, Obj.cells #[.pointer (some ⟨rb, 0, none⟩)] 131 (0, 0))]) (perm_of fun f => by (simp only [List.map_append, List.map_cons, List.map_nil, List.sum_append, List.sum_cons, List.sum_nil] <;> omega))
theorem pRep_eq {α : Type} (P : Ps α) (k : Nat) (l : List Nat) : pRep P (k + 1) l = match P l with
    | none => none
    | some (x, r) => match pRep P k r with
      | none => none
      | some (xs, q) => some (x :: xs, q) := rfl
theorem pRep_succ {α : Type} (P : Ps α) (k : Nat) : ∀ (l : List Nat), pRep P (k + 1) l = match pRep P k l with
    | none => none
    | some (xs, r) => match P r with
      | none => none
      | some (x, q) => some (xs ++ [x], q) := by
  induction k with
  | zero =>
    intro l
    rw [pRep_eq]
    simp only [pRep]
    rcases P l with _ | ⟨x, r⟩ <;> rfl
  | succ k ih =>
    intro l
    rw [pRep_eq P (k + 1) l, pRep_eq P k l]
    rcases P l with _ | ⟨x, r⟩
    · rfl
    · dsimp only
      rw [ih r]
      rcases pRep P k r with _ | ⟨xs, r2⟩
      · rfl
      · dsimp only
        rcases P r2 with _ | ⟨y, q⟩ <;> rfl
theorem pRep_none {α : Type} {P : Ps α} {k : Nat} {l r : List Nat} {xs : List α} (h : pRep P k l = some (xs, r)) (hn : P r = none) : ∀ n, k < n → pRep P n l = none := by
  have h1 : pRep P (k + 1) l = none := by rw [pRep_succ, h]; dsimp only; rw [hn]
  intro n hkn
  obtain ⟨d, rfl⟩ : ∃ d, n = k + 1 + d := ⟨n - (k + 1), by omega⟩
  induction d with
  | zero => exact h1
  | succ d ih => rw [← Nat.add_assoc, pRep_succ, ih (by omega)]
theorem pRep_step {α : Type} {P : Ps α} {k : Nat} {l r q : List Nat} {xs : List α} {x : α} (h : pRep P k l = some (xs, r)) (hx : P r = some (x, q)) : pRep P (k + 1) l = some (xs ++ [x], q) := by
  rw [pRep_succ, h]; dsimp only; rw [hx]
theorem pN_nat {r r1 : List Nat} {x : Int} (h : pN 1 r = some (x, r1)) (hb : Bt r) : ∃ n : Nat, x = (n : Int) ∧ n < 256 := by
  obtain ⟨_, h1, h2⟩ := (good_N 1).b r x r1 hb h
  exact ⟨x.toNat, by omega, by simpa using h2⟩
theorem rdListO (rb : Nat) (a : Option Addr) (l r : List Nat) (hr : r <:+ l) : RdsC 115 [.agg #[.pointer (some ⟨rb, 0, none⟩)], .func (.func 116) #[.agg #[.pointer (some ⟨rb, 0, none⟩)]] #[]] rb a l r [] (pRow (pOut) r) (fun xs => {p : Value × Hp // Own 164 9 p.1 xs.length (rws OutD.c xs) p.2}) (fun _ y => y.1.1) (fun _ y => y.1.2) := by
  intro w hI hw hnd
  refine enter Tryz.func115 rfl (Mem.init (S0 := rb :: ([] : Hp).map (·.1)) hw (fun p hp => List.mem_map_of_mem hp) hnd) rfl ?_
  have hbl := hI.bt
  refine z_ ?_
  refine Run.nw nbx ?_
  intro b2
  refine x_ ?_
  have hp1 : ([(b2, Obj.cells #[.pointer (some ⟨rb, 0, none⟩)] 131 (0, 0)), (rb, RdS a l r)] : Hp).Perm (((rb, RdS a l r) :: []) ++ [(b2, Obj.cells #[.pointer (some ⟨rb, 0, none⟩)] 131 (0, 0))]) := (perm_of fun f => by (simp only [List.map_append, List.map_cons, List.map_nil, List.sum_append, List.sum_cons, List.sum_nil] <;> omega))
  rcases h1 : pN 1 r with _ | ⟨x1, r1⟩
  · refine Run.op1 (callRn Tryz.func44 (rdNum 1 (by decide) rb a l r hr) hI hp1 h1 (fun k hk => ?_)) (fun y => y.elim)
    repeat first | refine RQ.thenPanic ?_ | refine RQ.blockPanic ?_
    exact RQ.panR (by simp [pRow, h1]) hk
  have hr1 := (good_N 1).sfx hbl hr h1
  refine Run.op1 (callRs Tryz.func44 (rdNum 1 (by decide) rb a l r hr) hI hp1 h1) (fun _ => ?_)
  dsimp only [List.append_nil, List.cons_append, List.nil_append]
  obtain ⟨n, rfl, hn⟩ := pN_nat h1 (fun x hx => hbl x (hr.mem hx))
  have hrow : pRow (pOut) r = pRep (pOut) n r1 := by simp [pRow, h1]
  refine x_ ?_
  refine RC.up n (D := List (OutD) × List Nat × Value × Hp) (fun k d => pRep (pOut) k r1 = some (d.1, d.2.1) ∧ d.2.1 <:+ l ∧ d.1.length = k ∧ Own 164 9 d.2.2.1 k (rws OutD.c d.1) d.2.2.2) (fun k d => [(9, .int .i64 k), (8, .int .i64 n), (5, d.2.2.1), (1, .func (.func 116) #[.agg #[.pointer (some ⟨rb, 0, none⟩)]] #[])]) (fun _ d => (rb, RdS a l d.2.1) :: (d.2.2.2 ++ [(b2, Obj.cells #[.pointer (some ⟨rb, 0, none⟩)] 131 (0, 0))])) 0 ([], r1, .slice none 0 0, []) (Nat.zero_le _) ⟨rfl, hr1, rfl, Own.nil⟩ ⟨rfl, rfl, rfl, rfl, trivial⟩ (List.Sublist.refl _) ?_
  rintro k ⟨xs, rk, v5, l5⟩ hk ⟨hrep, hrk, hxl, hown⟩
  dsimp only at hrep hrk hxl hown ⊢
  refine x_ ?_
  (repeat refine RC.seq ?_); refine RC.wh rfl (fun h => RQ.next ?_) (fun h => ?_)
  · have hk' : k < n := by have := of_decide_eq_true h; omega
    clear h
    refine x_ ?_
    have hp2 : ((rb, RdS a l rk) :: (l5 ++ [(b2, Obj.cells #[.pointer (some ⟨rb, 0, none⟩)] 131 (0, 0))]) : Hp).Perm (((rb, RdS a l rk) :: []) ++ (l5 ++ [(b2, Obj.cells #[.pointer (some ⟨rb, 0, none⟩)] 131 (0, 0))])) := List.Perm.refl _
    rcases h2 : pOut rk with _ | ⟨x2, r2⟩
    · refine Run.op1 (callFn [.agg #[.pointer (some ⟨rb, 0, none⟩)]] Tryz.func116 (rdOut rb a l rk hrk) hI hp2 h2 (fun k' hk'' => ?_)) (fun y => y.elim)
      repeat first | refine RQ.thenPanic ?_ | refine RQ.blockPanic ?_
      exact RQ.panR (by rw [hrow]; exact pRep_none hrep h2 n hk') hk''
    have hr2 := (good_out).sfx hbl hrk h2
    have hst := pRep_step hrep h2
    refine Run.op1 (callFs [.agg #[.pointer (some ⟨rb, 0, none⟩)]] Tryz.func116 (rdOut rb a l rk hrk) hI hp2 h2) (fun _ => ?_)
    dsimp only [List.append_nil, List.cons_append, List.nil_append]
    refine Run.nw (nbsl (OutD.c x2).toArray (fillS_1 9 _ (OutD.c x2) (OutD.len x2))) ?_
    intro b14
    refine Run.op1 (OpTo.append (L1 := (b14, Obj.cells (OutD.c x2).toArray 164 (0, 0)) :: ((rb, RdS a l r2) :: [(b2, Obj.cells #[.pointer (some ⟨rb, 0, none⟩)] 131 (0, 0))])) tabOk hown (Src.at ⟨b14, 0, none⟩ 1 1 (OutD.c x2) (by rw [OutD.len]; rfl) (Rd.rowAll m0)) rfl rfl rfl rfl rfl rfl rfl rfl rfl (perm_of fun f => by (simp only [List.map_append, List.map_cons, List.map_nil, List.sum_append, List.sum_cons, List.sum_nil] <;> omega)) (OutD.one x2) (by unfold maxLen; omega) (by simp only [ti164]; omega)) ?_
    rintro ⟨⟨v15, l15⟩, h15⟩
    dsimp only at h15 ⊢
    refine x_ ?_
    exact RQ.upP (k + 1) (xs ++ [x2], r2, v15, l15) (Nat.lt_succ_self _) hk' ⟨hst, hr2, by rw [List.length_append, hxl]; rfl, by rw [rws_app, rws_one]; exact h15⟩ ⟨rfl, rfl, rfl, rfl, trivial⟩ (L1 := ((rb, RdS a l r2) :: (l15 ++ [(b2, Obj.cells #[.pointer (some ⟨rb, 0, none⟩)] 131 (0, 0))])) ++ [(b14, Obj.cells (OutD.c x2).toArray 164 (0, 0))]) (perm_of fun f => by (simp only [List.map_append, List.map_cons, List.map_nil, List.sum_append, List.sum_cons, List.sum_nil] <;> omega)) (List.sublist_append_left _ _)
  · have hk' : k = n := by have := of_decide_eq_false h; omega
    clear h
    subst hk'
    (repeat refine RQ.thenExit ?_); refine RQ.blockHere ?_
    refine x_ ?_
    exact RQ.ret1 rfl (Res.tmp rfl) fun w' hm => RdsQ.fin (r' := rk) (Y := fun xs : List (OutD) => {p : Value × Hp // Own 164 9 p.1 xs.length (rws OutD.c xs) p.2}) (V := fun _ y => y.1.1) (L' := fun _ y => y.1.2) (hrow.trans hrep) ⟨(v5, l5), by rw [hxl]; exact hown⟩ hm (Lr := [(b2, Obj.cells #[.pointer (some ⟨rb, 0, none⟩)] 131 (0, 0))]) (List.Perm.refl _)
theorem rdListI (rb : Nat) (a : Option Addr) (l r : List Nat) (hr : r <:+ l) : RdsC 117 [.agg #[.pointer (some ⟨rb, 0, none⟩)], .func (.func 118) #[.agg #[.pointer (some ⟨rb, 0, none⟩)]] #[]] rb a l r [] (pRow (pIn) r) (fun xs => {p : Value × Hp // Own 173 298 p.1 xs.length (rws InD.c xs) p.2}) (fun _ y => y.1.1) (fun _ y => y.1.2) := by
  intro w hI hw hnd
  refine enter Tryz.func117 rfl (Mem.init (S0 := rb :: ([] : Hp).map (·.1)) hw (fun p hp => List.mem_map_of_mem hp) hnd) rfl ?_
  have hbl := hI.bt
  refine z_ ?_
  refine Run.nw nbx ?_
  intro b2
  refine x_ ?_
  have hp1 : ([(b2, Obj.cells #[.pointer (some ⟨rb, 0, none⟩)] 131 (0, 0)), (rb, RdS a l r)] : Hp).Perm (((rb, RdS a l r) :: []) ++ [(b2, Obj.cells #[.pointer (some ⟨rb, 0, none⟩)] 131 (0, 0))]) := (perm_of fun f => by (simp only [List.map_append, List.map_cons, List.map_nil, List.sum_append, List.sum_cons, List.sum_nil] <;> omega))
  rcases h1 : pN 1 r with _ | ⟨x1, r1⟩
  · refine Run.op1 (callRn Tryz.func44 (rdNum 1 (by decide) rb a l r hr) hI hp1 h1 (fun k hk => ?_)) (fun y => y.elim)
    repeat first | refine RQ.thenPanic ?_ | refine RQ.blockPanic ?_
    exact RQ.panR (by simp [pRow, h1]) hk
  have hr1 := (good_N 1).sfx hbl hr h1
  refine Run.op1 (callRs Tryz.func44 (rdNum 1 (by decide) rb a l r hr) hI hp1 h1) (fun _ => ?_)
  dsimp only [List.append_nil, List.cons_append, List.nil_append]
  obtain ⟨n, rfl, hn⟩ := pN_nat h1 (fun x hx => hbl x (hr.mem hx))
  have hrow : pRow (pIn) r = pRep (pIn) n r1 := by simp [pRow, h1]
  refine x_ ?_
  refine RC.up n (D := List (InD) × List Nat × Value × Hp) (fun k d => pRep (pIn) k r1 = some (d.1, d.2.1) ∧ d.2.1 <:+ l ∧ d.1.length = k ∧ Own 173 298 d.2.2.1 k (rws InD.c d.1) d.2.2.2) (fun k d => [(9, .int .i64 k), (8, .int .i64 n), (5, d.2.2.1), (1, .func (.func 118) #[.agg #[.pointer (some ⟨rb, 0, none⟩)]] #[])]) (fun _ d => (rb, RdS a l d.2.1) :: (d.2.2.2 ++ [(b2, Obj.cells #[.pointer (some ⟨rb, 0, none⟩)] 131 (0, 0))])) 0 ([], r1, .slice none 0 0, []) (Nat.zero_le _) ⟨rfl, hr1, rfl, Own.nil⟩ ⟨rfl, rfl, rfl, rfl, trivial⟩ (List.Sublist.refl _) ?_
  rintro k ⟨xs, rk, v5, l5⟩ hk ⟨hrep, hrk, hxl, hown⟩
  dsimp only at hrep hrk hxl hown ⊢
  refine x_ ?_
  (repeat refine RC.seq ?_); refine RC.wh rfl (fun h => RQ.next ?_) (fun h => ?_)
  · have hk' : k < n := by have := of_decide_eq_true h; omega
    clear h
    refine x_ ?_
    have hp2 : ((rb, RdS a l rk) :: (l5 ++ [(b2, Obj.cells #[.pointer (some ⟨rb, 0, none⟩)] 131 (0, 0))]) : Hp).Perm (((rb, RdS a l rk) :: []) ++ (l5 ++ [(b2, Obj.cells #[.pointer (some ⟨rb, 0, none⟩)] 131 (0, 0))])) := List.Perm.refl _
    rcases h2 : pIn rk with _ | ⟨x2, r2⟩
    · refine Run.op1 (callFn [.agg #[.pointer (some ⟨rb, 0, none⟩)]] Tryz.func118 (rdIn rb a l rk hrk) hI hp2 h2 (fun k' hk'' => ?_)) (fun y => y.elim)
      repeat first | refine RQ.thenPanic ?_ | refine RQ.blockPanic ?_
      exact RQ.panR (by rw [hrow]; exact pRep_none hrep h2 n hk') hk''
    have hr2 := (good_in).sfx hbl hrk h2
    have hst := pRep_step hrep h2
    refine Run.op1 (callFs [.agg #[.pointer (some ⟨rb, 0, none⟩)]] Tryz.func118 (rdIn rb a l rk hrk) hI hp2 h2) (fun _ => ?_)
    dsimp only [List.append_nil, List.cons_append, List.nil_append]
    refine Run.nw (nbsl (InD.c x2).toArray (fillS_1 298 _ (InD.c x2) (InD.len x2))) ?_
    intro b14
    refine Run.op1 (OpTo.append (L1 := (b14, Obj.cells (InD.c x2).toArray 173 (0, 0)) :: ((rb, RdS a l r2) :: [(b2, Obj.cells #[.pointer (some ⟨rb, 0, none⟩)] 131 (0, 0))])) tabOk hown (Src.at ⟨b14, 0, none⟩ 1 1 (InD.c x2) (by rw [InD.len]; rfl) (Rd.rowAll m0)) rfl rfl rfl rfl rfl rfl rfl rfl rfl (perm_of fun f => by (simp only [List.map_append, List.map_cons, List.map_nil, List.sum_append, List.sum_cons, List.sum_nil] <;> omega)) (InD.one x2) (by unfold maxLen; omega) (by simp only [ti173]; omega)) ?_
    rintro ⟨⟨v15, l15⟩, h15⟩
    dsimp only at h15 ⊢
    refine x_ ?_
    exact RQ.upP (k + 1) (xs ++ [x2], r2, v15, l15) (Nat.lt_succ_self _) hk' ⟨hst, hr2, by rw [List.length_append, hxl]; rfl, by rw [rws_app, rws_one]; exact h15⟩ ⟨rfl, rfl, rfl, rfl, trivial⟩ (L1 := ((rb, RdS a l r2) :: (l15 ++ [(b2, Obj.cells #[.pointer (some ⟨rb, 0, none⟩)] 131 (0, 0))])) ++ [(b14, Obj.cells (InD.c x2).toArray 173 (0, 0))]) (perm_of fun f => by (simp only [List.map_append, List.map_cons, List.map_nil, List.sum_append, List.sum_cons, List.sum_nil] <;> omega)) (List.sublist_append_left _ _)
  · have hk' : k = n := by have := of_decide_eq_false h; omega
    clear h
    subst hk'
    (repeat refine RQ.thenExit ?_); refine RQ.blockHere ?_
    refine x_ ?_
    exact RQ.ret1 rfl (Res.tmp rfl) fun w' hm => RdsQ.fin (r' := rk) (Y := fun xs : List (InD) => {p : Value × Hp // Own 173 298 p.1 xs.length (rws InD.c xs) p.2}) (V := fun _ y => y.1.1) (L' := fun _ y => y.1.2) (hrow.trans hrep) ⟨(v5, l5), by rw [hxl]; exact hown⟩ hm (Lr := [(b2, Obj.cells #[.pointer (some ⟨rb, 0, none⟩)] 131 (0, 0))]) (List.Perm.refl _)
theorem rdListF (rb : Nat) (a : Option Addr) (l r : List Nat) (hr : r <:+ l) : RdsC 119 [.agg #[.pointer (some ⟨rb, 0, none⟩)], .func (.func 120) #[.agg #[.pointer (some ⟨rb, 0, none⟩)]] #[]] rb a l r [] (pRow (pFo) r) (fun xs => {p : Value × Hp // Own 177 11 p.1 xs.length (rws FoD.c xs) p.2}) (fun _ y => y.1.1) (fun _ y => y.1.2) := by
  intro w hI hw hnd
  refine enter Tryz.func119 rfl (Mem.init (S0 := rb :: ([] : Hp).map (·.1)) hw (fun p hp => List.mem_map_of_mem hp) hnd) rfl ?_
  have hbl := hI.bt
  refine z_ ?_
  refine Run.nw nbx ?_
  intro b2
  refine x_ ?_
  have hp1 : ([(b2, Obj.cells #[.pointer (some ⟨rb, 0, none⟩)] 131 (0, 0)), (rb, RdS a l r)] : Hp).Perm (((rb, RdS a l r) :: []) ++ [(b2, Obj.cells #[.pointer (some ⟨rb, 0, none⟩)] 131 (0, 0))]) := (perm_of fun f => by (simp only [List.map_append, List.map_cons, List.map_nil, List.sum_append, List.sum_cons, List.sum_nil] <;> omega))
  rcases h1 : pN 1 r with _ | ⟨x1, r1⟩
  · refine Run.op1 (callRn Tryz.func44 (rdNum 1 (by decide) rb a l r hr) hI hp1 h1 (fun k hk => ?_)) (fun y => y.elim)
    repeat first | refine RQ.thenPanic ?_ | refine RQ.blockPanic ?_
    exact RQ.panR (by simp [pRow, h1]) hk
  have hr1 := (good_N 1).sfx hbl hr h1
  refine Run.op1 (callRs Tryz.func44 (rdNum 1 (by decide) rb a l r hr) hI hp1 h1) (fun _ => ?_)
  dsimp only [List.append_nil, List.cons_append, List.nil_append]
  obtain ⟨n, rfl, hn⟩ := pN_nat h1 (fun x hx => hbl x (hr.mem hx))
  have hrow : pRow (pFo) r = pRep (pFo) n r1 := by simp [pRow, h1]
  refine x_ ?_
  refine RC.up n (D := List (FoD) × List Nat × Value × Hp) (fun k d => pRep (pFo) k r1 = some (d.1, d.2.1) ∧ d.2.1 <:+ l ∧ d.1.length = k ∧ Own 177 11 d.2.2.1 k (rws FoD.c d.1) d.2.2.2) (fun k d => [(9, .int .i64 k), (8, .int .i64 n), (5, d.2.2.1), (1, .func (.func 120) #[.agg #[.pointer (some ⟨rb, 0, none⟩)]] #[])]) (fun _ d => (rb, RdS a l d.2.1) :: (d.2.2.2 ++ [(b2, Obj.cells #[.pointer (some ⟨rb, 0, none⟩)] 131 (0, 0))])) 0 ([], r1, .slice none 0 0, []) (Nat.zero_le _) ⟨rfl, hr1, rfl, Own.nil⟩ ⟨rfl, rfl, rfl, rfl, trivial⟩ (List.Sublist.refl _) ?_
  rintro k ⟨xs, rk, v5, l5⟩ hk ⟨hrep, hrk, hxl, hown⟩
  dsimp only at hrep hrk hxl hown ⊢
  refine x_ ?_
  (repeat refine RC.seq ?_); refine RC.wh rfl (fun h => RQ.next ?_) (fun h => ?_)
  · have hk' : k < n := by have := of_decide_eq_true h; omega
    clear h
    refine x_ ?_
    have hp2 : ((rb, RdS a l rk) :: (l5 ++ [(b2, Obj.cells #[.pointer (some ⟨rb, 0, none⟩)] 131 (0, 0))]) : Hp).Perm (((rb, RdS a l rk) :: []) ++ (l5 ++ [(b2, Obj.cells #[.pointer (some ⟨rb, 0, none⟩)] 131 (0, 0))])) := List.Perm.refl _
    rcases h2 : pFo rk with _ | ⟨x2, r2⟩
    · refine Run.op1 (callFn [.agg #[.pointer (some ⟨rb, 0, none⟩)]] Tryz.func120 (rdFo rb a l rk hrk) hI hp2 h2 (fun k' hk'' => ?_)) (fun y => y.elim)
      repeat first | refine RQ.thenPanic ?_ | refine RQ.blockPanic ?_
      exact RQ.panR (by rw [hrow]; exact pRep_none hrep h2 n hk') hk''
    have hr2 := (good_fo).sfx hbl hrk h2
    have hst := pRep_step hrep h2
    refine Run.op1 (callFs [.agg #[.pointer (some ⟨rb, 0, none⟩)]] Tryz.func120 (rdFo rb a l rk hrk) hI hp2 h2) (fun _ => ?_)
    dsimp only [List.append_nil, List.cons_append, List.nil_append]
    refine Run.nw (nbsl (FoD.c x2).toArray (fillS_1 11 _ (FoD.c x2) (FoD.len x2))) ?_
    intro b14
    refine Run.op1 (OpTo.append (L1 := (b14, Obj.cells (FoD.c x2).toArray 177 (0, 0)) :: ((rb, RdS a l r2) :: [(b2, Obj.cells #[.pointer (some ⟨rb, 0, none⟩)] 131 (0, 0))])) tabOk hown (Src.at ⟨b14, 0, none⟩ 1 1 (FoD.c x2) (by rw [FoD.len]; rfl) (Rd.rowAll m0)) rfl rfl rfl rfl rfl rfl rfl rfl rfl (perm_of fun f => by (simp only [List.map_append, List.map_cons, List.map_nil, List.sum_append, List.sum_cons, List.sum_nil] <;> omega)) (FoD.one x2) (by unfold maxLen; omega) (by simp only [ti177]; omega)) ?_
    rintro ⟨⟨v15, l15⟩, h15⟩
    dsimp only at h15 ⊢
    refine x_ ?_
    exact RQ.upP (k + 1) (xs ++ [x2], r2, v15, l15) (Nat.lt_succ_self _) hk' ⟨hst, hr2, by rw [List.length_append, hxl]; rfl, by rw [rws_app, rws_one]; exact h15⟩ ⟨rfl, rfl, rfl, rfl, trivial⟩ (L1 := ((rb, RdS a l r2) :: (l15 ++ [(b2, Obj.cells #[.pointer (some ⟨rb, 0, none⟩)] 131 (0, 0))])) ++ [(b14, Obj.cells (FoD.c x2).toArray 177 (0, 0))]) (perm_of fun f => by (simp only [List.map_append, List.map_cons, List.map_nil, List.sum_append, List.sum_cons, List.sum_nil] <;> omega)) (List.sublist_append_left _ _)
  · have hk' : k = n := by have := of_decide_eq_false h; omega
    clear h
    subst hk'
    (repeat refine RQ.thenExit ?_); refine RQ.blockHere ?_
    refine x_ ?_
    exact RQ.ret1 rfl (Res.tmp rfl) fun w' hm => RdsQ.fin (r' := rk) (Y := fun xs : List (FoD) => {p : Value × Hp // Own 177 11 p.1 xs.length (rws FoD.c xs) p.2}) (V := fun _ y => y.1.1) (L' := fun _ y => y.1.2) (hrow.trans hrep) ⟨(v5, l5), by rw [hxl]; exact hown⟩ hm (Lr := [(b2, Obj.cells #[.pointer (some ⟨rb, 0, none⟩)] 131 (0, 0))]) (List.Perm.refl _)
theorem rdListS (rb : Nat) (a : Option Addr) (l r : List Nat) (hr : r <:+ l) : RdsC 152 [.agg #[.pointer (some ⟨rb, 0, none⟩)], .func (.func 153) #[.agg #[.pointer (some ⟨rb, 0, none⟩)]] #[]] rb a l r [] (pRow (pSg) r) (fun xs => {p : Value × Hp // Own 188 282 p.1 xs.length (rws SgD.c xs) p.2}) (fun _ y => y.1.1) (fun _ y => y.1.2) := by
  intro w hI hw hnd
  refine enter Tryz.func152 rfl (Mem.init (S0 := rb :: ([] : Hp).map (·.1)) hw (fun p hp => List.mem_map_of_mem hp) hnd) rfl ?_
  have hbl := hI.bt
  refine z_ ?_
  refine Run.nw nbx ?_
  intro b2
  refine x_ ?_
  have hp1 : ([(b2, Obj.cells #[.pointer (some ⟨rb, 0, none⟩)] 131 (0, 0)), (rb, RdS a l r)] : Hp).Perm (((rb, RdS a l r) :: []) ++ [(b2, Obj.cells #[.pointer (some ⟨rb, 0, none⟩)] 131 (0, 0))]) := (perm_of fun f => by (simp only [List.map_append, List.map_cons, List.map_nil, List.sum_append, List.sum_cons, List.sum_nil] <;> omega))
  rcases h1 : pN 1 r with _ | ⟨x1, r1⟩
  · refine Run.op1 (callRn Tryz.func44 (rdNum 1 (by decide) rb a l r hr) hI hp1 h1 (fun k hk => ?_)) (fun y => y.elim)
    repeat first | refine RQ.thenPanic ?_ | refine RQ.blockPanic ?_
    exact RQ.panR (by simp [pRow, h1]) hk
  have hr1 := (good_N 1).sfx hbl hr h1
  refine Run.op1 (callRs Tryz.func44 (rdNum 1 (by decide) rb a l r hr) hI hp1 h1) (fun _ => ?_)
  dsimp only [List.append_nil, List.cons_append, List.nil_append]
  obtain ⟨n, rfl, hn⟩ := pN_nat h1 (fun x hx => hbl x (hr.mem hx))
  have hrow : pRow (pSg) r = pRep (pSg) n r1 := by simp [pRow, h1]
  refine x_ ?_
  refine RC.up n (D := List (SgD) × List Nat × Value × Hp) (fun k d => pRep (pSg) k r1 = some (d.1, d.2.1) ∧ d.2.1 <:+ l ∧ d.1.length = k ∧ Own 188 282 d.2.2.1 k (rws SgD.c d.1) d.2.2.2) (fun k d => [(9, .int .i64 k), (8, .int .i64 n), (5, d.2.2.1), (1, .func (.func 153) #[.agg #[.pointer (some ⟨rb, 0, none⟩)]] #[])]) (fun _ d => (rb, RdS a l d.2.1) :: (d.2.2.2 ++ [(b2, Obj.cells #[.pointer (some ⟨rb, 0, none⟩)] 131 (0, 0))])) 0 ([], r1, .slice none 0 0, []) (Nat.zero_le _) ⟨rfl, hr1, rfl, Own.nil⟩ ⟨rfl, rfl, rfl, rfl, trivial⟩ (List.Sublist.refl _) ?_
  rintro k ⟨xs, rk, v5, l5⟩ hk ⟨hrep, hrk, hxl, hown⟩
  dsimp only at hrep hrk hxl hown ⊢
  refine x_ ?_
  (repeat refine RC.seq ?_); refine RC.wh rfl (fun h => RQ.next ?_) (fun h => ?_)
  · have hk' : k < n := by have := of_decide_eq_true h; omega
    clear h
    refine x_ ?_
    have hp2 : ((rb, RdS a l rk) :: (l5 ++ [(b2, Obj.cells #[.pointer (some ⟨rb, 0, none⟩)] 131 (0, 0))]) : Hp).Perm (((rb, RdS a l rk) :: []) ++ (l5 ++ [(b2, Obj.cells #[.pointer (some ⟨rb, 0, none⟩)] 131 (0, 0))])) := List.Perm.refl _
    rcases h2 : pSg rk with _ | ⟨x2, r2⟩
    · refine Run.op1 (callFn [.agg #[.pointer (some ⟨rb, 0, none⟩)]] Tryz.func153 (rdSg rb a l rk hrk) hI hp2 h2 (fun k' hk'' => ?_)) (fun y => y.elim)
      repeat first | refine RQ.thenPanic ?_ | refine RQ.blockPanic ?_
      exact RQ.panR (by rw [hrow]; exact pRep_none hrep h2 n hk') hk''
    have hr2 := (good_sg).sfx hbl hrk h2
    have hst := pRep_step hrep h2
    refine Run.op1 (callFs [.agg #[.pointer (some ⟨rb, 0, none⟩)]] Tryz.func153 (rdSg rb a l rk hrk) hI hp2 h2) (fun _ => ?_)
    dsimp only [List.append_nil, List.cons_append, List.nil_append]
    refine Run.nw (nbsl (SgD.c x2).toArray (fillS_1 282 _ (SgD.c x2) (SgD.len x2))) ?_
    intro b14
    refine Run.op1 (OpTo.append (L1 := (b14, Obj.cells (SgD.c x2).toArray 188 (0, 0)) :: ((rb, RdS a l r2) :: [(b2, Obj.cells #[.pointer (some ⟨rb, 0, none⟩)] 131 (0, 0))])) tabOk hown (Src.at ⟨b14, 0, none⟩ 1 1 (SgD.c x2) (by rw [SgD.len]; rfl) (Rd.rowAll m0)) rfl rfl rfl rfl rfl rfl rfl rfl rfl (perm_of fun f => by (simp only [List.map_append, List.map_cons, List.map_nil, List.sum_append, List.sum_cons, List.sum_nil] <;> omega)) (SgD.one x2) (by unfold maxLen; omega) (by simp only [ti188]; omega)) ?_
    rintro ⟨⟨v15, l15⟩, h15⟩
    dsimp only at h15 ⊢
    refine x_ ?_
    exact RQ.upP (k + 1) (xs ++ [x2], r2, v15, l15) (Nat.lt_succ_self _) hk' ⟨hst, hr2, by rw [List.length_append, hxl]; rfl, by rw [rws_app, rws_one]; exact h15⟩ ⟨rfl, rfl, rfl, rfl, trivial⟩ (L1 := ((rb, RdS a l r2) :: (l15 ++ [(b2, Obj.cells #[.pointer (some ⟨rb, 0, none⟩)] 131 (0, 0))])) ++ [(b14, Obj.cells (SgD.c x2).toArray 188 (0, 0))]) (perm_of fun f => by (simp only [List.map_append, List.map_cons, List.map_nil, List.sum_append, List.sum_cons, List.sum_nil] <;> omega)) (List.sublist_append_left _ _)
  · have hk' : k = n := by have := of_decide_eq_false h; omega
    clear h
    subst hk'
    (repeat refine RQ.thenExit ?_); refine RQ.blockHere ?_
    refine x_ ?_
    exact RQ.ret1 rfl (Res.tmp rfl) fun w' hm => RdsQ.fin (r' := rk) (Y := fun xs : List (SgD) => {p : Value × Hp // Own 188 282 p.1 xs.length (rws SgD.c xs) p.2}) (V := fun _ y => y.1.1) (L' := fun _ y => y.1.2) (hrow.trans hrep) ⟨(v5, l5), by rw [hxl]; exact hown⟩ hm (Lr := [(b2, Obj.cells #[.pointer (some ⟨rb, 0, none⟩)] 131 (0, 0))]) (List.Perm.refl _)
def hsC (x : By 8) : List Value := u8s x.1
theorem hsC_len (x : By 8) : (hsC x).length = 8 := by unfold hsC; rw [u8s_len, x.2.1]
theorem hsC_one (x : By 8) : ∀ u ∈ hsC x, u.oneCell' = true := u8s_one x.1
theorem rdListH (rb : Nat) (a : Option Addr) (l r : List Nat) (hr : r <:+ l) : RdsC 151 [.agg #[.pointer (some ⟨rb, 0, none⟩)], .func (.func 42) #[.pointer (some ⟨rb, 0, none⟩)] #[]] rb a l r [] (pRow (pB 8) r) (fun xs => {p : Value × Hp // Own 23 8 p.1 xs.length (rws hsC xs) p.2}) (fun _ y => y.1.1) (fun _ y => y.1.2) := by
  intro w hI hw hnd
  refine enter Tryz.func151 rfl (Mem.init (S0 := rb :: ([] : Hp).map (·.1)) hw (fun p hp => List.mem_map_of_mem hp) hnd) rfl ?_
  have hbl := hI.bt
  refine z_ ?_
  refine Run.nw nbx ?_
  intro b2
  refine x_ ?_
  have hp1 : ([(b2, Obj.cells #[.pointer (some ⟨rb, 0, none⟩)] 131 (0, 0)), (rb, RdS a l r)] : Hp).Perm (((rb, RdS a l r) :: []) ++ [(b2, Obj.cells #[.pointer (some ⟨rb, 0, none⟩)] 131 (0, 0))]) := (perm_of fun f => by (simp only [List.map_append, List.map_cons, List.map_nil, List.sum_append, List.sum_cons, List.sum_nil] <;> omega))
  rcases h1 : pN 1 r with _ | ⟨x1, r1⟩
  · refine Run.op1 (callRn Tryz.func44 (rdNum 1 (by decide) rb a l r hr) hI hp1 h1 (fun k hk => ?_)) (fun y => y.elim)
    repeat first | refine RQ.thenPanic ?_ | refine RQ.blockPanic ?_
    exact RQ.panR (by simp [pRow, h1]) hk
  have hr1 := (good_N 1).sfx hbl hr h1
  refine Run.op1 (callRs Tryz.func44 (rdNum 1 (by decide) rb a l r hr) hI hp1 h1) (fun _ => ?_)
  dsimp only [List.append_nil, List.cons_append, List.nil_append]
  obtain ⟨n, rfl, hn⟩ := pN_nat h1 (fun x hx => hbl x (hr.mem hx))
  have hrow : pRow (pB 8) r = pRep (pB 8) n r1 := by simp [pRow, h1]
  refine x_ ?_
  refine RC.up n (D := List (By 8) × List Nat × Value × Hp) (fun k d => pRep (pB 8) k r1 = some (d.1, d.2.1) ∧ d.2.1 <:+ l ∧ d.1.length = k ∧ Own 23 8 d.2.2.1 k (rws hsC d.1) d.2.2.2) (fun k d => [(9, .int .i64 k), (8, .int .i64 n), (5, d.2.2.1), (1, .func (.func 42) #[.pointer (some ⟨rb, 0, none⟩)] #[])]) (fun _ d => (rb, RdS a l d.2.1) :: (d.2.2.2 ++ [(b2, Obj.cells #[.pointer (some ⟨rb, 0, none⟩)] 131 (0, 0))])) 0 ([], r1, .slice none 0 0, []) (Nat.zero_le _) ⟨rfl, hr1, rfl, Own.nil⟩ ⟨rfl, rfl, rfl, rfl, trivial⟩ (List.Sublist.refl _) ?_
  rintro k ⟨xs, rk, v5, l5⟩ hk ⟨hrep, hrk, hxl, hown⟩
  dsimp only at hrep hrk hxl hown ⊢
  refine x_ ?_
  (repeat refine RC.seq ?_); refine RC.wh rfl (fun h => RQ.next ?_) (fun h => ?_)
  · have hk' : k < n := by have := of_decide_eq_true h; omega
    clear h
    refine x_ ?_
    have hp2 : ((rb, RdS a l rk) :: (l5 ++ [(b2, Obj.cells #[.pointer (some ⟨rb, 0, none⟩)] 131 (0, 0))]) : Hp).Perm (((rb, RdS a l rk) :: []) ++ (l5 ++ [(b2, Obj.cells #[.pointer (some ⟨rb, 0, none⟩)] 131 (0, 0))])) := List.Perm.refl _
    rcases h2 : pB 8 rk with _ | ⟨x2, r2⟩
    · refine Run.op1 (callFn [.pointer (some ⟨rb, 0, none⟩)] Tryz.func42 (rdHash rb a l rk hrk) hI hp2 h2 (fun k' hk'' => ?_)) (fun y => y.elim)
      repeat first | refine RQ.thenPanic ?_ | refine RQ.blockPanic ?_
      exact RQ.panR (by rw [hrow]; exact pRep_none hrep h2 n hk') hk''
    have hr2 := (good_B 8).sfx hbl hrk h2
    have hst := pRep_step hrep h2
    refine Run.op1 (callFs [.pointer (some ⟨rb, 0, none⟩)] Tryz.func42 (rdHash rb a l rk hrk) hI hp2 h2) (fun _ => ?_)
    dsimp only [List.append_nil, List.cons_append, List.nil_append]
    refine Run.nw (nbsl (hsC x2).toArray (fillS_1 8 _ (hsC x2) (hsC_len x2))) ?_
    intro b14
    refine Run.op1 (OpTo.append (L1 := (b14, Obj.cells (hsC x2).toArray 23 (0, 0)) :: ((rb, RdS a l r2) :: [(b2, Obj.cells #[.pointer (some ⟨rb, 0, none⟩)] 131 (0, 0))])) tabOk hown (Src.at ⟨b14, 0, none⟩ 1 1 (hsC x2) (by rw [hsC_len]; rfl) (Rd.rowAll m0)) rfl rfl rfl rfl rfl rfl rfl rfl rfl (perm_of fun f => by (simp only [List.map_append, List.map_cons, List.map_nil, List.sum_append, List.sum_cons, List.sum_nil] <;> omega)) (hsC_one x2) (by unfold maxLen; omega) (by simp only [ti23]; omega)) ?_
    rintro ⟨⟨v15, l15⟩, h15⟩
    dsimp only at h15 ⊢
    refine x_ ?_
    exact RQ.upP (k + 1) (xs ++ [x2], r2, v15, l15) (Nat.lt_succ_self _) hk' ⟨hst, hr2, by rw [List.length_append, hxl]; rfl, by rw [rws_app, rws_one]; exact h15⟩ ⟨rfl, rfl, rfl, rfl, trivial⟩ (L1 := ((rb, RdS a l r2) :: (l15 ++ [(b2, Obj.cells #[.pointer (some ⟨rb, 0, none⟩)] 131 (0, 0))])) ++ [(b14, Obj.cells (hsC x2).toArray 23 (0, 0))]) (perm_of fun f => by (simp only [List.map_append, List.map_cons, List.map_nil, List.sum_append, List.sum_cons, List.sum_nil] <;> omega)) (List.sublist_append_left _ _)
  · have hk' : k = n := by have := of_decide_eq_false h; omega
    clear h
    subst hk'
    (repeat refine RQ.thenExit ?_); refine RQ.blockHere ?_
    refine x_ ?_
    exact RQ.ret1 rfl (Res.tmp rfl) fun w' hm => RdsQ.fin (r' := rk) (Y := fun xs : List (By 8) => {p : Value × Hp // Own 23 8 p.1 xs.length (rws hsC xs) p.2}) (V := fun _ y => y.1.1) (L' := fun _ y => y.1.2) (hrow.trans hrep) ⟨(v5, l5), by rw [hxl]; exact hown⟩ hm (Lr := [(b2, Obj.cells #[.pointer (some ⟨rb, 0, none⟩)] 131 (0, 0))]) (List.Perm.refl _)
end Go.Proofs.YtfoeakgnkfcbjaaGreatDoor
end
