/- Lemmas. -/
import Derived.Test.YtkkfaffehbjdgaaGreatDoorPk28
set_option linter.unusedSimpArgs false
set_option linter.unusedVariables false
section
/- tx: the reader: parameters, certificates (gen_ty2.py prints it). -/
namespace Go.Proofs.YtkkfaffehbjdgaaGreatDoor
attribute [local irreducible] Go.Vc.Run Go.Vc.RC Go.Vc.RQ Go.Vc.DR Go.Vc.DOp Go.Vc.Knows Go.Vc.At
set_option maxHeartbeats 400000
set_option maxRecDepth 10000
open Go Go.Vc Go.Sha
theorem one_s (a : Option Addr) (n c : Nat) : ∀ u ∈ (Value.slice a n c).cells.toList, u.oneCell' = true := by
  intro u hu
  simp only [Value.cells, List.mem_cons, List.not_mem_nil, or_false] at hu
  subst hu; rfl
def ceK (sd ep ql : Int) (en ro : By 8) (u v : Value) : List Value := ceC ⟨sd, ep, ql, en, ro, [], []⟩ u v
theorem ceK_eq (c : CeD) (u v : Value) : ceC c u v = ceK c.sd c.ep c.ql c.en c.ro u v := rfl
theorem ceK_len (sd ep ql : Int) (en ro : By 8) (u v : Value) : (ceK sd ep ql en ro u v).length = 21 := ceC_len _ _ _
theorem ceK_one (sd ep ql : Int) (en ro : By 8) (a : Option Addr) (n c : Nat) (a' : Option Addr) (n' c' : Nat) : ∀ u ∈ ceK sd ep ql en ro (.slice a n c) (.slice a' n' c'), u.oneCell' = true := ceC_one _ _ _ _ _ _ _
theorem ce_w19 (sd ep ql : Int) (en ro : By 8) (u v b : Value) : wrAt (ceK sd ep ql en ro u v).toArray 19 [b] = (ceK sd ep ql en ro b v).toArray := wr_at' (pre := .int .i64 sd :: .int .i64 ep :: .int .i64 ql :: (u8s en.1 ++ u8s ro.1)) (old := [u]) (post := [v]) (by unfold ceK ceC; simp only [List.cons_append, List.append_assoc, List.nil_append]) (by unfold ceK ceC; simp only [List.cons_append, List.append_assoc, List.nil_append]) rfl (by simp only [List.length_cons, List.length_append, u8s_len, en.2.1, ro.2.1])
theorem ce_w20 (sd ep ql : Int) (en ro : By 8) (u v b : Value) : wrAt (ceK sd ep ql en ro u v).toArray 20 [b] = (ceK sd ep ql en ro u b).toArray := wr_at' (pre := .int .i64 sd :: .int .i64 ep :: .int .i64 ql :: (u8s en.1 ++ (u8s ro.1 ++ [u]))) (old := [v]) (post := []) (by unfold ceK ceC; simp only [List.cons_append, List.append_assoc, List.nil_append, List.append_nil]) (by unfold ceK ceC; simp only [List.cons_append, List.append_assoc, List.nil_append, List.append_nil]) rfl (by simp only [List.length_cons, List.length_append, List.length_nil, u8s_len, en.2.1, ro.2.1])
end Go.Proofs.YtkkfaffehbjdgaaGreatDoor

/- tx: the reader: transactions; Decode (gen_ty3.py prints it). -/
namespace Go.Proofs.YtkkfaffehbjdgaaGreatDoor
attribute [local irreducible] Go.Vc.Run Go.Vc.RC Go.Vc.RQ Go.Vc.DR Go.Vc.DOp Go.Vc.Knows Go.Vc.At
set_option maxHeartbeats 400000
set_option maxRecDepth 10000
open Go Go.Vc Go.Sha
def TxV.z : TxV := ⟨none, 0, none, 0, none, 0, none, 0, none, 0, none, 0⟩
def TxV.mC (v : TxV) (a : Option Addr) (c : Nat) (a' : Option Addr) (c' : Nat) : TxV := { v with aA := a, cA := c, aS := a', cS := c' }
theorem tx_w9 (t : TxD) (v : TxV) (e : CeD) (a : Option Addr) (c : Nat) (a' : Option Addr) (c' : Nat) : wrAt (txC t v).toArray 9 (ceC e (.slice a e.os.length c) (.slice a' e.sg.length c')) = (txC { t with c := e } (v.mC a c a' c')).toArray :=
  wr_at' (pre := tx5 t v ++ prC t.p (.slice v.aK t.p.ks.length v.cK)) (old := ceC t.c (.slice v.aA t.c.os.length v.cA) (.slice v.aS t.c.sg.length v.cS)) (post := t.l.c) (by rw [txC_eq, List.append_assoc]) (by rw [txC_eq, List.append_assoc]; rfl) (by rw [ceC_len, ceC_len]) rfl
end Go.Proofs.YtkkfaffehbjdgaaGreatDoor

/- tx: Decode. -/
namespace Go.Proofs.YtkkfaffehbjdgaaGreatDoor
attribute [local irreducible] Go.Vc.Run Go.Vc.RC Go.Vc.RQ Go.Vc.DR Go.Vc.DOp Go.Vc.Knows Go.Vc.At
set_option maxHeartbeats 400000
set_option maxRecDepth 10000
open Go Go.Vc Go.Sha
end Go.Proofs.YtkkfaffehbjdgaaGreatDoor
end
section
/- tx: awake, Few (gen_ty5.py prints it). -/
namespace Go.Proofs.YtkkfaffehbjdgaaGreatDoor
attribute [local irreducible] Go.Vc.Run Go.Vc.RC Go.Vc.RQ Go.Vc.DR Go.Vc.DOp Go.Vc.Knows Go.Vc.At
set_option maxHeartbeats 400000
set_option maxRecDepth 10000
open Go Go.Vc Go.Sha
/-- Its lists are short. -/
def FewP (t : TxD) : Prop := t.is.length ≤ 20 ∧ t.os.length ≤ 40 ∧ t.fs.length ≤ 40 ∧ t.p.ks.length ≤ 20 ∧ t.c.os.length ≤ 40 ∧ t.c.sg.length ≤ 20
instance (t : TxD) : Decidable (FewP t) := by unfold FewP; infer_instance
end Go.Proofs.YtkkfaffehbjdgaaGreatDoor

/- tx: the laws: TxWrites, TxCuts. -/
namespace Go.Proofs.YtkkfaffehbjdgaaGreatDoor
attribute [local irreducible] Go.Vc.Run Go.Vc.RC Go.Vc.RQ Go.Vc.DR Go.Vc.DOp Go.Vc.Knows Go.Vc.At
set_option maxHeartbeats 400000
set_option maxRecDepth 10000
open Go Go.Vc Go.Sha
end Go.Proofs.YtkkfaffehbjdgaaGreatDoor
end
section
/- tx: what is signed of a payment (the reference's), of a certificate; what is paid. -/
namespace Go.Proofs.YtkkfaffehbjdgaaGreatDoor
attribute [local irreducible] Go.Vc.Run Go.Vc.RC Go.Vc.RQ Go.Vc.DR Go.Vc.DOp Go.Vc.Knows Go.Vc.At
set_option maxHeartbeats 400000
set_option maxRecDepth 10000
open Go Go.Vc Go.Sha
end Go.Proofs.YtkkfaffehbjdgaaGreatDoor
end
section
/- tx: what is signed of a certificate; what is paid. -/
namespace Go.Vc
open Go
section
variable {P : Program} {n : Nat} {w0 : World} {S0 : List Nat} {Q : Exit → Act → World → Prop} {E : Env} {L : Hp} {o : Oper} {d : Nat} {T : List (Nat × TI)} {t : Nat} {ti : TI}
/-- make([]T, 1). -/
theorem New.makeOne (hT : TabOk P T) {x y : Operand} {e : Nat} {ei : TI} (ho : o.op = .makeSlice t x y) (ht : tiGet T t = some ti) (hd : ti.desc = .slice e) (he : tiGet T e = some ei) (hz : ei.zero.cells.size = ei.size) (hs1 : ei.size ≠ 0)
    (hx : lk E x = some (.int .i64 1)) (hy : lk E y = some (.int .i64 1)) (hb : ei.bytes ≤ 281474976710656) : New P n w0 S0 E L o (fun b => .slice (some ⟨b, 0, none⟩) 1 1) (.cells ei.zero.cells e) := by
  intro a w hs _
  have h2 := (hT _ _ ht).1
  rw [hd] at h2
  have hw : IntKind.i64.wrap (1 : Int) = 1 := by decide
  obtain ⟨-, i, hi, hsz, hby, hzz⟩ := hT _ _ he
  have hb' : ¬ (281474976710656 : Int) < (i.bytes : Int) := by rw [hby]; omega
  have hr : (Array.range ei.size).map (fun j => ei.zero.cells[j % ei.size]!) = ei.zero.cells := by
    apply Array.ext
    · simp [hz]
    · intro j h1 h3
      have hj : j < ei.size := by rw [← hz]; exact h3
      simp [Nat.mod_eq_of_lt hj, h3]
  refine ⟨w, Fr.refl _ _, rfl, ?_⟩
  simp [execOp, ho, hs.eval hx, hs.eval hy, Instr.makeSlice, run_underlying h2, asInt, asIntOf, typeInfo, hi, hw, sizeOf, hsz, newRow, zeroValue, hzz, hb', hr, hz, hs1]
end
end Go.Vc
namespace Go.Proofs.YtkkfaffehbjdgaaGreatDoor
attribute [local irreducible] Go.Vc.Run Go.Vc.RC Go.Vc.RQ Go.Vc.DR Go.Vc.DOp Go.Vc.Knows Go.Vc.At
set_option maxHeartbeats 400000
set_option maxRecDepth 10000
open Go Go.Vc Go.Sha
theorem tx_zero' : ti92.zero.cells = (txC (TxD.nul 0) TxV.z).toArray := by kernel_rfl
theorem sg_zero : ti102.zero.cells = (SgD.c ⟨0, SigD.nul⟩).toArray := by kernel_rfl
/-- The transaction whose bytes are signed: its signatures are one empty one. -/
def crtT (c : CeD) : TxD := tCert { c with sg := [⟨0, SigD.nul⟩] }
noncomputable def crtH (c : CeD) : List Nat := dgH 99 (crtT c) []
theorem crt_fill (c : CeD) (aA : Option Addr) (cA b : Nat) : Instr.fill (fun i => ([(0, 1), (1, 1), (2, 1), (3, 1), (4, 1), (5, 4), (9, 21), (30, 140)] : List (Nat × Nat))[i]?) ti92.zero.cells [(0, .int .i64 4), (6, .agg (ceC { c with sg := [⟨0, SigD.nul⟩] } (.slice aA c.os.length cA) (.slice (some ⟨b, 0, none⟩) 1 1)).toArray)] = some (txC (crtT c) (TxV.z.mC aA cA (some ⟨b, 0, none⟩) 1)).toArray := by
  have h21 : (Value.agg (ceC { c with sg := [⟨0, SigD.nul⟩] } (.slice aA c.os.length cA) (.slice (some ⟨b, 0, none⟩) 1 1)).toArray).cells.size = 21 := by
    show (ceC _ _ _).toArray.size = 21
    rw [List.size_toArray, ceC_len]
  rw [fill_step (off := 0) rfl (by decide), tx_zero']
  rw [show wrAt (txC (TxD.nul 0) TxV.z).toArray 0 (Value.int .i64 4).cells.toList = (txC (TxD.nul 4) TxV.z).toArray from rfl]
  rw [fill_step (off := 9) (by rw [h21]; rfl) (by rw [h21, List.size_toArray, txC_len]; decide)]
  exact congrArg some (tx_w9 (TxD.nul 4) TxV.z { c with sg := [⟨0, SigD.nul⟩] } aA cA (some ⟨b, 0, none⟩) 1)
theorem crt_w20 (c : CeD) (u v q : Value) : wrAt (ceC c u v).toArray 20 [q] = (ceC { c with sg := [⟨0, SigD.nul⟩] } u q).toArray := ce_w20 c.sd c.ep c.ql c.en c.ro u v q
theorem crt_ln {c : CeD} (h : c.os.length ≤ 4096) : TxLn (crtT c) := ⟨Nat.zero_le _, Nat.zero_le _, Nat.zero_le _, Nat.zero_le _, h, by show 1 ≤ 4096; decide⟩
theorem crt_at {c : CeD} {aA : Option Addr} {cA b : Nat} {e : TypeId} {w : World} (ho : SrcW w 9 (.slice aA c.os.length cA) c.os.length (rws OutD.c c.os)) (hb : w.heap[b]? = some (.cells (SgD.c ⟨0, SigD.nul⟩).toArray e (0, 0))) : TxAt w (crtT c) (TxV.z.mC aA cA (some ⟨b, 0, none⟩) 1) := by
  refine ⟨.nil, .nil, .nil, .nil, ho, ?_⟩
  have hr : rws SgD.c [⟨0, SigD.nul⟩] = SgD.c ⟨0, SigD.nul⟩ := rws_one _
  show SrcW w 282 (.slice (some ⟨b, 0, none⟩) 1 1) 1 (rws SgD.c [⟨0, SigD.nul⟩])
  rw [hr]
  exact SrcW.row (w0 := w) (S0 := [b]) (L := [(b, .cells (SgD.c ⟨0, SigD.nul⟩).toArray e (0, 0))]) (Mem.init (fun p hp => by rw [List.mem_singleton] at hp; subst hp; exact hb) (fun p hp => by rw [List.mem_singleton] at hp; subst hp; exact List.mem_singleton.2 rfl) (by simp)) List.mem_cons_self (by rw [SgD.len]) (Nat.le_refl 1)
set_option maxRecDepth 10000 in set_option maxHeartbeats 4000000 in
theorem TCertM_calls (c : CeD) (aA : Option Addr) (cA : Nat) (aS : Option Addr) (nS cS : Nat) (hln : c.os.length ≤ 4096) (w : World) (ho : SrcW w 9 (.slice aA c.os.length cA) c.os.length (rws OutD.c c.os)) (hK : Laid w) : Gives Tryz.prog 29 [.agg (ceC c (.slice aA c.os.length cA) (.slice aS nS cS)).toArray] (.tuple #[.agg (u8s (crtH c)).toArray, .bool (decide (TxMay (crtT c)))]) w := by
  refine enter Tryz.func29 rfl (Mem.nil w []) rfl ?_
  have h21 : (ceC c (.slice aA c.os.length cA) (.slice aS nS cS)).toArray.size = 21 := by rw [List.size_toArray, ceC_len]
  have h8 : (crtH c).length = 8 := dgH_len _ _ _
  refine z_ ?_
  refine Run.nw nbx ?_
  intro b1
  refine z_ ?_
  refine Run.nw nal ?_
  intro b2
  refine x_ ?_
  refine Run.nw (New.makeOne tabOk rfl rfl rfl rfl (by kernel_rfl) (by decide) rfl rfl (by decide)) ?_
  intro b4
  rw [sg_zero]
  refine x_ ?_
  refine Run.op1 (ostE (arr := (ceC c (.slice aA c.os.length cA) (.slice aS nS cS)).toArray) (e := 36) (L' := [(b4, Obj.cells (SgD.c ⟨0, SigD.nul⟩).toArray 102 (0, 0)), (b2, Obj.cells ti32.zero.cells 32 (0, 0))]) (ceC { c with sg := [⟨0, SigD.nul⟩] } (.slice aA c.os.length cA) (.slice (some ⟨b4, 0, none⟩) 1 1)).toArray (hL := (perm_of fun f => by (simp only [List.map_append, List.map_cons, List.map_nil, List.sum_append, List.sum_cons, List.sum_nil] <;> omega))) (he := by exact crt_w20 c _ _ _) (hf := by rw [h21]; decide) (h1 := by exact one_s _ _ _)) (fun _ => ?_)
  have h21' : (ceC { c with sg := [⟨0, SigD.nul⟩] } (.slice aA c.os.length cA) (.slice (some ⟨b4, 0, none⟩) 1 1)).toArray.size = 21 := by rw [List.size_toArray, ceC_len]
  refine x_ ?_
  refine Run.a (vbs (txC (crtT c) (TxV.z.mC aA cA (some ⟨b4, 0, none⟩) 1)).toArray (hf := by exact crt_fill c aA cA b4)) ?_
  refine Run.op1 (OpTo.cv Tryz.func50 (fun w' hm => Tdigest_calls 99 (by decide) (crtT c) (TxV.z.mC aA cA (some ⟨b4, 0, none⟩) 1) (crt_ln hln) (.slice none 0 0) [] [] w' (crt_at (ho.fr hm.fr) (hm.has _ m1)) .nil Parts.nil (by decide) (by decide) (fun l hl => by cases hl) (hK.fr hm.fr (by simp)))) (fun _ => ?_)
  refine x_ ?_
  refine Run.op1 (osa (arr := ti32.zero.cells) (e := 32) (L' := [(b1, Obj.cells (ceC { c with sg := [⟨0, SigD.nul⟩] } (.slice aA c.os.length cA) (.slice (some ⟨b4, 0, none⟩) 1 1)).toArray 36 (0, 0)), (b4, Obj.cells (SgD.c ⟨0, SigD.nul⟩).toArray 102 (0, 0))]) (u8s (crtH c)).toArray (u8s_one _) (hL := (perm_of fun f => by (simp only [List.map_append, List.map_cons, List.map_nil, List.sum_append, List.sum_cons, List.sum_nil] <;> omega))) (hs := by rw [List.size_toArray, u8s_len, h8]; rfl)) (fun _ => ?_)
  refine x_ ?_
  exact RQ.ret2 rfl (Res.cellAll tabOk rfl rfl rfl m0 (by rw [List.size_toArray, u8s_len, h8]; rfl)) (Res.tmp rfl) fun w' hm' => ⟨rfl, hm'.fr⟩
set_option maxRecDepth 10000 in set_option maxHeartbeats 4000000 in
theorem RCertM_calls (c : CeD) (aA : Option Addr) (cA : Nat) (aS : Option Addr) (nS cS : Nat) (hln : c.os.length ≤ 4096) (w : World) (ho : SrcW w 9 (.slice aA c.os.length cA) c.os.length (rws OutD.c c.os)) : Gives Tryz.prog 24 [.agg (ceC c (.slice aA c.os.length cA) (.slice aS nS cS)).toArray] (.tuple #[.agg (u8s (crtH c)).toArray, .bool (decide (TxMay (crtT c)))]) w := by
  refine enter Tryz.func24 rfl (Mem.nil w []) rfl ?_
  have h21 : (ceC c (.slice aA c.os.length cA) (.slice aS nS cS)).toArray.size = 21 := by rw [List.size_toArray, ceC_len]
  refine z_ ?_
  refine Run.nw nbx ?_
  intro b1
  refine z_ ?_
  refine Run.nw nal ?_
  intro b2
  refine x_ ?_
  rw [sg_zero]
  refine Run.nw (nbsl (SgD.c ⟨0, SigD.nul⟩).toArray (fillS_1 282 _ (SgD.c ⟨0, SigD.nul⟩) (SgD.len _))) ?_
  intro b4
  refine x_ ?_
  refine Run.op1 (ostE (arr := (ceC c (.slice aA c.os.length cA) (.slice aS nS cS)).toArray) (e := 36) (L' := [(b4, Obj.cells (SgD.c ⟨0, SigD.nul⟩).toArray 102 (0, 0)), (b2, Obj.cells ti32.zero.cells 32 (0, 0))]) (ceC { c with sg := [⟨0, SigD.nul⟩] } (.slice aA c.os.length cA) (.slice (some ⟨b4, 0, none⟩) 1 1)).toArray (hL := (perm_of fun f => by (simp only [List.map_append, List.map_cons, List.map_nil, List.sum_append, List.sum_cons, List.sum_nil] <;> omega))) (he := by exact crt_w20 c _ _ _) (hf := by rw [h21]; decide) (h1 := by exact one_s _ _ _)) (fun _ => ?_)
  have h21' : (ceC { c with sg := [⟨0, SigD.nul⟩] } (.slice aA c.os.length cA) (.slice (some ⟨b4, 0, none⟩) 1 1)).toArray.size = 21 := by rw [List.size_toArray, ceC_len]
  refine x_ ?_
  refine Run.a (vbs (txC (crtT c) (TxV.z.mC aA cA (some ⟨b4, 0, none⟩) 1)).toArray (hf := by exact crt_fill c aA cA b4)) ?_
  have hz0 : ([(b1, Obj.cells (ceC { c with sg := [⟨0, SigD.nul⟩] } (.slice aA c.os.length cA) (.slice (some ⟨b4, 0, none⟩) 1 1)).toArray 36 (0, 0)), (b4, Obj.cells (SgD.c ⟨0, SigD.nul⟩).toArray 102 (0, 0)), (b2, Obj.cells ti32.zero.cells 32 (0, 0))] : Hp).Perm ([] ++ [(b1, Obj.cells (ceC { c with sg := [⟨0, SigD.nul⟩] } (.slice aA c.os.length cA) (.slice (some ⟨b4, 0, none⟩) 1 1)).toArray 36 (0, 0)), (b4, Obj.cells (SgD.c ⟨0, SigD.nul⟩).toArray 102 (0, 0)), (b2, Obj.cells ti32.zero.cells 32 (0, 0))]) := List.Perm.refl _
  have hEn : ∀ w', Fr [] w w' → w'.heap[b4]? = some (Obj.cells (SgD.c ⟨0, SigD.nul⟩).toArray 102 (0, 0)) → Turns Tryz.prog 42 [.agg (txC (crtT c) (TxV.z.mC aA cA (some ⟨b4, 0, none⟩) 1)).toArray] w' [] (Y := EncY (crtT c)) (fun y => .tuple #[y.1.1, .int .i64 (encE (crtT c))]) (fun y => y.1.2) := fun w' hf hb => REncode_calls (crtT c) _ (crt_ln hln) w' (crt_at (ho.fr hf) hb)
  generalize txC (crtT c) (TxV.z.mC aA cA (some ⟨b4, 0, none⟩) 1) = G at hEn ⊢
  generalize ceC { c with sg := [⟨0, SigD.nul⟩] } (.slice aA c.os.length cA) (.slice (some ⟨b4, 0, none⟩) 1 1) = C at h21' hz0 ⊢
  refine Run.op1 (OpTo.callT Tryz.func42 hz0 (fun w' hm => hEn w' hm.fr (hm.has _ m1))) ?_
  rintro ⟨⟨v12, l12⟩, h12⟩
  dsimp only at h12 ⊢
  by_cases hm : TxMay (crtT c)
  rotate_left
  · rw [show encE (crtT c) = 1 from if_neg hm, show crtH c = List.replicate 8 0 from if_neg hm, decide_eq_false hm]
    refine x_ ?_
    refine Run.op1 (osa (arr := ti32.zero.cells) (e := 32) (L' := l12 ++ [(b1, Obj.cells C.toArray 36 (0, 0)), (b4, Obj.cells (SgD.c ⟨0, SigD.nul⟩).toArray 102 (0, 0))]) (u8s (List.replicate 8 0)).toArray (u8s_one _) (hL := (perm_of fun f => by (simp only [List.map_append, List.map_cons, List.map_nil, List.sum_append, List.sum_cons, List.sum_nil] <;> omega)))) (fun _ => ?_)
    refine x_ ?_
    exact RQ.ret2 rfl (Res.cellAll tabOk rfl rfl rfl m0 rfl) (Res.tmp rfl) fun w' hm' => ⟨rfl, hm'.fr⟩
  have hd : crtH c = digest 99 [(crtT c).b] := if_pos hm
  rw [show encE (crtT c) = 0 from if_pos hm, hd, decide_eq_true hm]
  rw [show encB (crtT c) = (crtT c).b from if_pos hm] at h12
  have hd8 : (digest 99 [(crtT c).b]).length = 8 := digest_len _ _
  have hbl := hm.bl
  have hbt := bt_tx hm
  generalize (crtT c).b = B at h12 hd8 hbl hbt hd ⊢
  obtain ⟨a12, c12, rfl, hc12⟩ := h12.shape
  refine x_ ?_
  refine Run.nw (nbsk (parts := [(0, .tmp 18)]) #[.slice a12 B.length c12]) ?_
  intro b20
  have hfinal : ∀ w', Mem w [] ((b20, Obj.cells #[.slice a12 B.length c12] 22 (0, 0)) :: (l12 ++ [(b1, Obj.cells C.toArray 36 (0, 0)), (b4, Obj.cells (SgD.c ⟨0, SigD.nul⟩).toArray 102 (0, 0)), (b2, Obj.cells ti32.zero.cells 32 (0, 0))])) w' → Gives Tryz.prog 43 [.int .u8 99, .slice (some ⟨b20, 0, none⟩) 1 1] (.agg (u8s (digest 99 [B])).toArray) w' := fun w' hm' => by
    refine Digest_calls 99 (by decide) _ [.slice a12 B.length c12] [B] w' (SrcW.row hm' m0 rfl (Nat.le_refl 1)) (Parts.cons (h12.srcW (fun q hq => hm'.has q (List.mem_cons_of_mem _ (List.mem_append_left _ hq)))) Parts.nil) ?_ ?_
    · show (([B]).map fun l => 4 + l.length).sum ≤ _
      rw [List.map_cons, List.sum_cons, List.map_nil, List.sum_nil]
      omega
    · intro l hl
      rw [List.mem_singleton] at hl
      subst hl
      exact hbt
  refine x_ ?_
  refine Run.op1 (OpTo.cv Tryz.func43 (fun w' hm' => hfinal w' hm')) (fun _ => ?_)
  refine x_ ?_
  refine Run.op1 (osa (arr := ti32.zero.cells) (e := 32) (L' := (b20, Obj.cells #[.slice a12 B.length c12] 22 (0, 0)) :: (l12 ++ [(b1, Obj.cells C.toArray 36 (0, 0)), (b4, Obj.cells (SgD.c ⟨0, SigD.nul⟩).toArray 102 (0, 0))])) (u8s (digest 99 [B])).toArray (u8s_one _) (hL := (perm_of fun f => by (simp only [List.map_append, List.map_cons, List.map_nil, List.sum_append, List.sum_cons, List.sum_nil] <;> omega))) (hs := by rw [List.size_toArray, u8s_len, hd8]; rfl)) (fun _ => ?_)
  refine x_ ?_
  exact RQ.ret2 rfl (Res.cellAll tabOk rfl rfl rfl m0 (by rw [List.size_toArray, u8s_len, hd8]; rfl)) (Res.tmp rfl) fun w' hm' => ⟨rfl, hm'.fr⟩
end Go.Proofs.YtkkfaffehbjdgaaGreatDoor
end
