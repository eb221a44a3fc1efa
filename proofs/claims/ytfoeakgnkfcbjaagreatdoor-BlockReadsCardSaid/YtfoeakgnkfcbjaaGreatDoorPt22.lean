/- Lemmas. -/
import Derived.Tactics
import Derived.Tactics2
import Derived.Defers
import Derived.Recover
import Derived.Laws.Pointers
import Derived.Test.YtfoeakgnkfcbjaaGreatDoorPt21
set_option linter.unusedSimpArgs false
set_option linter.unusedVariables false
section
/- tx: digest, ID, the reference's TxID, Same, SameTx. -/
namespace Go.Proofs.YtfoeakgnkfcbjaaGreatDoor
attribute [local irreducible] Go.Vc.Run Go.Vc.RC Go.Vc.RQ Go.Vc.DR Go.Vc.DOp Go.Vc.Knows Go.Vc.At
set_option maxHeartbeats 400000
open Go Go.Vc Go.Sha
/-- The digest of a transaction, with parts behind it. -/
noncomputable def dgH (p : Nat) (t : TxD) (ls : List (List Nat)) : List Nat := if TxMay t then digest p (t.b :: ls) else List.replicate 8 0
theorem dgH_len (p : Nat) (t : TxD) (ls : List (List Nat)) : (dgH p t ls).length = 8 := by
  unfold dgH
  split
  · exact digest_len _ _
  · rfl
theorem Parts.one {w : World} {vs : List Value} {ls : List (List Nat)} (h : Parts w vs ls) : ∀ u ∈ vs, u.oneCell' = true := by
  intro u hu
  obtain ⟨i, hi, rfl⟩ := List.mem_iff_getElem.1 hu
  exact (h.2 i hi (by rw [← h.1]; exact hi)).one
theorem Parts.cons {w : World} {u : Value} {l : List Nat} {vs : List Value} {ls : List (List Nat)} (hu : SrcW w 1 u l.length (u8s l)) (h : Parts w vs ls) : Parts w (u :: vs) (l :: ls) := by
  refine ⟨by rw [List.length_cons, List.length_cons, h.1], fun i h1 h2 => ?_⟩
  cases i with
  | zero => exact hu
  | succ i => exact h.2 i (by simpa using h1) (by simpa using h2)
theorem Parts.nil {w : World} : Parts w [] [] := ⟨rfl, fun i h _ => absurd h (by simp)⟩
theorem bt_tx {t : TxD} (h : TxMay t) : ∀ x ∈ t.b, x < 256 := TxD.bt h.rg
set_option maxRecDepth 10000 in set_option maxHeartbeats 4000000 in
theorem Tdigest_calls (p : Nat) (hp : p < 256) (t : TxD) (v : TxV) (hln : TxLn t) (pv : Value) (vs : List Value) (ls : List (List Nat)) (w : World) (ht : TxAt w t v) (hs : SrcW w 1 pv ls.length vs) (hps : Parts w vs ls) (hll : ls.length ≤ 4) (htl : tot ls ≤ 1000) (hlb : ∀ l ∈ ls, ∀ x ∈ l, x < 256) (hK : Laid w) :
    Gives Tryz.prog 64 [.int .u8 p, .agg (txC t v).toArray, pv] (.tuple #[.agg (u8s (dgH p t ls)).toArray, .bool (decide (TxMay t))]) w := by
  refine enter Tryz.func64 rfl (Mem.nil w []) rfl ?_
  obtain ⟨pa, pc, rfl, hpc⟩ := hs.shape
  have hFs : (txC t v).toArray.size = 170 := by rw [List.size_toArray, txC_len]
  have hE : ∀ w', Fr [] w w' → Turns Tryz.prog 70 [.agg (txC t v).toArray] w' [] (Y := EncY t) (fun y => .tuple #[y.1.1, .int .i64 (encE t)]) (fun y => y.1.2) := fun w' hf => TEncode_calls t v hln w' (ht.fr hf)
  generalize txC t v = F at hFs hE ⊢
  refine z_ ?_
  refine Run.nw nbx ?_
  intro b4
  refine z_ ?_
  refine Run.nw nal ?_
  intro b6
  refine x_ ?_
  have hz0 : ([(b6, Obj.cells (u8s (List.replicate 8 0)).toArray 23 (0, 0)), (b4, Obj.cells F.toArray 64 (0, 0))] : Hp).Perm ([] ++ [(b6, Obj.cells (u8s (List.replicate 8 0)).toArray 23 (0, 0)), (b4, Obj.cells F.toArray 64 (0, 0))]) := List.Perm.refl _
  refine Run.op1 (OpTo.callT Tryz.func70 hz0 (fun w' hm => hE w' hm.fr)) ?_
  rintro ⟨⟨v12, l12⟩, h12⟩
  dsimp only at h12 ⊢
  by_cases hm : TxMay t
  rotate_left
  · rw [show encE t = 1 from if_neg hm, show dgH p t ls = List.replicate 8 0 from if_neg hm, decide_eq_false hm]
    refine x_ ?_
    refine Run.op1 (osa (arr := (u8s (List.replicate 8 0)).toArray) (e := 23) (L' := l12 ++ [(b4, Obj.cells F.toArray 64 (0, 0))]) (u8s (List.replicate 8 0)).toArray (u8s_one _) (hL := (perm_of fun f => by (simp only [List.map_append, List.map_cons, List.map_nil, List.sum_append, List.sum_cons, List.sum_nil] <;> omega)))) (fun _ => ?_)
    refine x_ ?_
    exact RQ.ret2 rfl (Res.cellAll tabOk rfl rfl rfl m0 rfl) (Res.tmp rfl) fun w' hm' => ⟨rfl, hm'.fr⟩
  rw [show encE t = 0 from if_pos hm, decide_eq_true hm]
  rw [show encB t = t.b from if_pos hm] at h12
  have hd : dgH p t ls = digest p (t.b :: ls) := if_pos hm
  rw [hd]
  have hd8 : (digest p (t.b :: ls)).length = 8 := digest_len _ _
  have hbl := hm.bl
  obtain ⟨a12, c12, rfl, hc12⟩ := h12.shape
  refine x_ ?_
  refine Run.nw (nbsk (parts := [(0, .tmp 19)]) #[.slice a12 t.b.length c12]) ?_
  intro b20
  refine x_ ?_
  have hown : Own 35 1 (.slice (some ⟨b20, 0, none⟩) 1 1) 1 [.slice a12 t.b.length c12] [(b20, Obj.cells #[.slice a12 t.b.length c12] 35 (0, 0))] := Own.row b20 1 1 [.slice a12 t.b.length c12] [] rfl rfl (Nat.le_refl _) (by unfold maxLen; decide)
  refine Run.op1 (OpTo.append (L1 := l12 ++ [(b6, Obj.cells (u8s (List.replicate 8 0)).toArray 23 (0, 0)), (b4, Obj.cells F.toArray 64 (0, 0))]) tabOk hown hs.src rfl rfl rfl rfl rfl rfl rfl rfl rfl (List.Perm.refl _) hps.one (by unfold maxLen; omega) (by simp only [ti35]; omega)) ?_
  rintro ⟨⟨v22, l22⟩, h22⟩
  dsimp only at h22 ⊢
  have hfinal : ∀ w', Mem w [] (l22 ++ (l12 ++ [(b6, Obj.cells (u8s (List.replicate 8 0)).toArray 23 (0, 0)), (b4, Obj.cells F.toArray 64 (0, 0))])) w' → Gives Tryz.prog 32 [.int .u8 p, v22] (.agg (u8s (digest p (t.b :: ls))).toArray) w' := fun w' hm' => by
    have hsw : SrcW w' 1 v22 (t.b :: ls).length (.slice a12 t.b.length c12 :: vs) := by
      have h := h22.srcW (w := w') (fun q hq => hm'.has q (List.mem_append_left _ hq))
      rw [Nat.add_comm] at h
      exact h
    refine Of_calls p hp v22 (.slice a12 t.b.length c12 :: vs) (t.b :: ls) w' hsw (Parts.cons (h12.srcW (fun q hq => hm'.has q (List.mem_append_right _ (List.mem_append_left _ hq)))) (hps.fr hm'.fr)) ?_ ?_ (hK.fr hm'.fr (by simp))
    · show ((t.b :: ls).map fun l => 4 + l.length).sum ≤ _
      rw [List.map_cons, List.sum_cons]
      have : (ls.map fun l => 4 + l.length).sum ≤ 1000 := htl
      omega
    · intro l hl
      rcases List.mem_cons.1 hl with rfl | hl
      · exact bt_tx hm
      · exact hlb l hl
  refine Run.op1 (OpTo.cv Tryz.func32 (fun w' hm' => hfinal w' hm')) (fun _ => ?_)
  refine x_ ?_
  refine Run.op1 (osa (arr := (u8s (List.replicate 8 0)).toArray) (e := 23) (L' := l22 ++ (l12 ++ [(b4, Obj.cells F.toArray 64 (0, 0))])) (u8s (digest p (t.b :: ls))).toArray (u8s_one _) (hL := (perm_of fun f => by (simp only [List.map_append, List.map_cons, List.map_nil, List.sum_append, List.sum_cons, List.sum_nil] <;> omega))) (hs := by rw [List.size_toArray, u8s_len, hd8]; rfl)) (fun _ => ?_)
  refine x_ ?_
  exact RQ.ret2 rfl (Res.cellAll tabOk rfl rfl rfl m0 (by rw [List.size_toArray, u8s_len, hd8]; rfl)) (Res.tmp rfl) fun w' hm' => ⟨rfl, hm'.fr⟩
set_option maxRecDepth 10000 in set_option maxHeartbeats 4000000 in
theorem TID_calls (t : TxD) (v : TxV) (hln : TxLn t) (w : World) (ht : TxAt w t v) (hK : Laid w) : Gives Tryz.prog 34 [.agg (txC t v).toArray] (.tuple #[.agg (u8s (dgH 120 t [])).toArray, .bool (decide (TxMay t))]) w := by
  refine enter Tryz.func34 rfl (Mem.nil w []) rfl ?_
  have hFs : (txC t v).toArray.size = 170 := by rw [List.size_toArray, txC_len]
  have c1 : Knows Tryz.prog w 64 [.int .u8 120, .agg (txC t v).toArray, .slice none 0 0] (.tuple #[.agg (u8s (dgH 120 t [])).toArray, .bool (decide (TxMay t))]) := Knows.mk Tryz.func64 (fun w' hf => Tdigest_calls 120 (by decide) t v hln (.slice none 0 0) [] [] w' (ht.fr hf) .nil Parts.nil (by decide) (by decide) (fun l hl => by cases hl) (hK.fr hf (by simp)))
  have h8 := dgH_len 120 t []
  generalize txC t v = F at hFs c1 ⊢
  generalize dgH 120 t [] = D at h8 c1 ⊢
  refine z_ ?_
  refine Run.nw nbx ?_
  intro b1
  refine z_ ?_
  refine Run.nw nal ?_
  intro b2
  refine x_ ?_
  refine Run.op1 (osa (arr := ti23.zero.cells) (u8s D).toArray (u8s_one _) (hs := by rw [List.size_toArray, u8s_len, h8]; rfl)) (fun _ => ?_)
  refine x_ ?_
  exact RQ.ret2 rfl (Res.cellAll tabOk rfl rfl rfl m0 (by rw [List.size_toArray, u8s_len, h8]; rfl)) (Res.tmp rfl) fun w' hm' => ⟨rfl, hm'.fr⟩
set_option maxRecDepth 10000 in set_option maxHeartbeats 4000000 in
theorem Equal_calls (a b : List Nat) (ha : ∀ x ∈ a, x < 256) (hb : ∀ x ∈ b, x < 256) (u v : Value) (w : World) (hu : SrcW w 1 u a.length (u8s a)) (hv : SrcW w 1 v b.length (u8s b)) : Gives Tryz.prog 39 [u, v] (.bool (decide (a = b))) w := by
  refine enter Tryz.func39 rfl (Mem.nil w []) rfl ?_
  refine x_ ?_
  refine Run.a (Val.bytesStr (a := a) tabOk rfl rfl rfl rfl rfl rfl rfl rfl hu.src) ?_
  refine x_ ?_
  refine Run.a (Val.bytesStr (a := b) tabOk rfl rfl rfl rfl rfl rfl rfl rfl hv.src) ?_
  refine Run.a (Val.eqStr (a := a) (b := b) rfl rfl rfl ha hb) ?_
  refine x_ ?_
  exact RQ.ret1 rfl (Res.tmp rfl) fun w' hm => ⟨rfl, hm.fr⟩
/-- Both may be, and their bytes are the same. -/
def SameP (a b : TxD) : Prop := TxMay a ∧ TxMay b ∧ a.b = b.b
noncomputable instance (a b : TxD) : Decidable (SameP a b) := Classical.propDecidable _
end Go.Proofs.YtfoeakgnkfcbjaaGreatDoor

/- tx: Message. -/
namespace Go.Vc
open Go Go.Sha
end Go.Vc
namespace Go.Proofs.YtfoeakgnkfcbjaaGreatDoor
attribute [local irreducible] Go.Vc.Run Go.Vc.RC Go.Vc.RQ Go.Vc.DR Go.Vc.DOp Go.Vc.Knows Go.Vc.At
set_option maxHeartbeats 400000
open Go Go.Vc Go.Sha
/-- Whether it has a message for that place. -/
def MsgP (t : TxD) (i : Int) : Prop := t.kd = 2 ∧ (0 ≤ i ∧ i < t.is.length) ∧ TxMay t
noncomputable instance (t : TxD) (i : Int) : Decidable (MsgP t i) := Classical.propDecidable _
end Go.Proofs.YtfoeakgnkfcbjaaGreatDoor
end
section
set_option maxRecDepth 10000
/- wire: what is deferred. -/
namespace Go.Proofs.YtfoeakgnkfcbjaaGreatDoor
open Go Go.Vc Go.Sha
theorem catch_panicking (b2 b3 : Nat) (hne : b2 ≠ b3) (x y : Value) (u : TypeId) (pv : Value) (older : List PanicEntry) (w : World) (h2 : w.heap[b2]? = some (.cells #[x] 20 (0, 0))) (h3 : w.heap[b3]? = some (.cells #[y] 4 (0, 0))) :
    CallsD Tryz.prog 114 #[.pointer (some ⟨b2, 0, none⟩), .pointer (some ⟨b3, 0, none⟩)] (.panicking ({ v := .iface u pv, recovered := false } :: older)) w fun e u' w' =>
      e = .returned (.tuple #[]) ∧ u' = .panicking ({ v := .iface u pv, recovered := true } :: older) ∧ w' = (w.setRow b2 #[.iface u pv]).setRow b3 #[.bool false] := by
  refine callsD_of_wpS Tryz.func114 rfl fun c₀ cs hu => ?_
  have hc2 : w.cell? ⟨b2, 0, none⟩ = some x := by rw [cell_of_row w b2 0 _ _ _ h2]; rfl
  have hz2 := frozen_of_row w b2 0 _ _ h2
  have e1 := setCell_eq_setRow w b2 0 _ _ _ (.iface u pv) h2
  have hb3 : (w.setCell ⟨b2, 0, none⟩ (.iface u pv)).heap[b3]? = some (.cells #[y] 4 (0, 0)) := by rw [e1, setRow_other w b2 b3 _ (fun h => hne h.symm)]; exact h3
  have hc3 : (w.setCell ⟨b2, 0, none⟩ (.iface u pv)).cell? ⟨b3, 0, none⟩ = some y := by rw [cell_of_row _ b3 0 _ _ _ hb3]; rfl
  have hz3 := frozen_of_row _ b3 0 _ _ h3
  have e2 := setCell_eq_setRow (w.setCell ⟨b2, 0, none⟩ (.iface u pv)) b3 0 _ _ _ (.bool false) hb3
  apply wpS_seq
  apply wpS_region
  simp [wpOpsS, go_sem, recoverD, hu, Tryz.ntmps114, Exit.thenS]
  apply wpS_seq
  apply wpS_region
  simp [wpOpsS, go_sem, Exit.thenS]
  refine wpS_cond (t := true) (by simp [Act.eval]) ?_
  simp only [if_true]
  apply wpS_region
  simp [wpOpsS, hc2, hz2, hc3, hz3, go_sem, bodyPostS, results, Tryz.results114]
  rw [e2, e1]; rfl
theorem catch_idle (b2 b3 : Nat) (w : World) :
    CallsD Tryz.prog 114 #[.pointer (some ⟨b2, 0, none⟩), .pointer (some ⟨b3, 0, none⟩)] .returning w fun e u' w' => e = .returned (.tuple #[]) ∧ u' = .returning ∧ w' = w := by
  refine callsD_of_wpS Tryz.func114 rfl fun c₀ cs hu => ?_
  apply wpS_seq
  apply wpS_region
  simp [wpOpsS, go_sem, recoverD, hu, Tryz.ntmps114, Exit.thenS]
  apply wpS_seq
  apply wpS_region
  simp [wpOpsS, go_sem, Exit.thenS]
  refine wpS_cond (t := false) (by simp [Act.eval]) ?_
  simp only [Bool.false_eq_true, if_false]
  refine wpS_of_wp (wp_skip ?_)
  cases c₀
  simp_all [bodyPostS, results, Tryz.results114]
end Go.Proofs.YtfoeakgnkfcbjaaGreatDoor

/- wire: guarded. -/
namespace Go.Vc
open Go
/-- What is known of a frame that has deferred calls. -/
structure SD (n : Nat) (E : Env) (ds : List Deferred) (a : Act) : Prop where
  defers : a.defers = ds
  size : a.tmps.size = n
  env : ∀ t v, E.get t = some v → a.tmps.getD t undef = v
theorem SD.st {n : Nat} {E : Env} {ds : List Deferred} {a : Act} (h : SD n E ds a) : St n E { a with defers := [] } := ⟨rfl, h.size, h.env⟩
theorem St.sd {n : Nat} {E : Env} {a : Act} (h : St n E a) (ds : List Deferred) : SD n E ds { a with defers := ds } := ⟨rfl, h.size, h.env⟩
theorem SD.put {n : Nat} {E : Env} {ds : List Deferred} {a : Act} (h : SD n E ds a) {d : Nat} (hd : Nat.blt d n = true) (v : Value) : SD n ((d, v) :: E) ds (a.put (some d) v) :=
  ⟨h.defers, (h.st.put hd v).size, (h.st.put hd v).env⟩
/-- How a call of a function without results ends: none: it returns; some: it panics with that. -/
def endO : Option (TypeId × Value) → Ending
  | none => .returned (.tuple #[])
  | some p => .panicked [{ v := .iface p.1 p.2, recovered := false }]
/-- It turns the blocks Lst into L', and returns or panics. -/
def TurnsO (P : Program) (f : FuncId) (vs : List Value) (w : World) (Lst : Hp) {Y : Type} (o : Y → Option (TypeId × Value)) (L' : Y → Hp) : Prop :=
  Calls P f vs.toArray w fun e w' => ∃ y, e = endO (o y) ∧ Fr (Lst.map (·.1)) w w' ∧ Has (L' y) w' ∧ (∀ p ∈ L' y, w.heap.size ≤ p.1 ∨ p.1 ∈ Lst.map (·.1)) ∧ ((L' y).map (·.1)).Nodup
theorem TurnsO.of {Y : Type} {o : Y → Option (TypeId × Value)} {L' : Y → Hp} {Lst L1 Lr : Hp} {w0 w : World} (y : Y) {e : Ending} (he : e = endO (o y)) (hm : Mem w0 (Lst.map (·.1)) L1 w) (hp : L1.Perm (L' y ++ Lr)) :
    ∃ y', e = endO (o y') ∧ Fr (Lst.map (·.1)) w0 w ∧ Has (L' y') w ∧ (∀ p ∈ L' y', w0.heap.size ≤ p.1 ∨ p.1 ∈ Lst.map (·.1)) ∧ ((L' y').map (·.1)).Nodup :=
  have h := hm.perm hp
  ⟨y, he, h.fr, fun p hp => h.has p (List.mem_append_left _ hp), fun p hp => h.own p (List.mem_append_left _ hp), by have := h.nd; rw [List.map_append] at this; exact (List.nodup_append.1 this).1⟩
def resO : Option (TypeId × Value) → Array Value
  | none => #[.nilIface, .bool true]
  | some p => #[.iface p.1 p.2, .bool false]
theorem Mem.row {w0 w : World} {S0 : List Nat} {L L' : Hp} {b : Nat} {cs : Array Value} {e : TypeId} (cs' : Array Value) (h : Mem w0 S0 L w) (hL : L.Perm ((b, .cells cs e (0, 0)) :: L')) : Mem w0 S0 ((b, .cells cs' e (0, 0)) :: L') (w.setRow b cs') :=
  have h' := h.perm hL
  h'.write (Fr.setRow w b cs') (setRow_heap w b cs cs' e _ (h'.has _ List.mem_cons_self))
theorem SD.store {P : Program} {n : Nat} {E : Env} {ds : List Deferred} {a : Act} {w : World} {Q : Exit → Act → World → Prop} {o : Oper} {ops : Array Oper} {rest : List Oper} {T : List (Nat × TI)} {t : Nat} {ti : TI} (hs : SD n E ds a) (hT : TabOk P T) {x y : Operand} {b : Nat} {arr : Array Value} {e : TypeId} {v : Value} (cs : Array Value)
    (ho : o.op = .store t x y) (ht : tiGet T t = some ti) (hg : o.guard = none) (hd : o.dst = none) (hx : lk E x = some (.pointer (some ⟨b, 0, none⟩))) (hy : lk E y = some v) (hb : w.heap[b]? = some (.cells arr e (0, 0)))
    (hz : v.cells.size = ti.size) (hf : 0 + ti.size ≤ arr.size) (h1 : ∀ u ∈ v.cells.toList, u.oneCell' = true) (hcs : wrAt arr 0 v.cells.toList = cs) (k : wpList P ops Q rest a (w.setRow b cs)) : wpList P ops Q (o :: rest) a w := by
  refine wpList_plain hg fun K hK => ?_
  have := run_storeVar_at (P := P) (hT _ _ ht) w hb hz hf h1
  have ex : a.eval x = _ := hs.st.eval hx
  have ey : a.eval y = _ := hs.st.eval hy
  have hr : (execOp a.eval o).run P w = .ok .skip (w.setRow b cs) := by rw [hcs] at this; simp [execOp, ho, ex, ey, Instr.storeAt, Instr.sureAddr, this]
  simp only [Oper.wp, hr, Oper.upon_skip, hd]
  exact hK _ _ k
end Go.Vc
namespace Go.Proofs.YtfoeakgnkfcbjaaGreatDoor
open Go Go.Vc Go.Sha
theorem one1 {v : Value} (hv : v.cells = #[v]) (h1 : v.oneCell' = true) : ∀ u ∈ v.cells.toList, u.oneCell' = true := by
  intro u hu
  rw [hv] at hu
  simp only [List.mem_cons, List.not_mem_nil, or_false] at hu
  subst hu
  exact h1
set_option maxRecDepth 10000 in set_option maxHeartbeats 4000000 in
theorem guarded_calls {g : FuncId} {fg : Func} (hg : Tryz.prog.funcs[g]? = some fg) (hnm : (fg.name == "runtime.NumGoroutine") = false) (hb : fg.body.isNone = false) (cap : List Value) (w : World) (Lst : Hp) (hw : Has Lst w) (hnd : (Lst.map (·.1)).Nodup) {Y : Type} {o : Y → Option (TypeId × Value)} {L' : Y → Hp}
    (hc : ∀ w', Fr [] w w' → TurnsO Tryz.prog g cap w' Lst o L') :
    Turns Tryz.prog 74 [.func (.func g) #[] cap.toArray] w Lst (Y := Y) (fun y => .tuple (resO (o y))) L' := by
  refine calls_of_wp_defers Tryz.func74 rfl ?_
  refine (?_ : RC Tryz.prog _ w (Lst.map (·.1)) _ _ (argEnv 0 [.func (.func g) #[] cap.toArray]) Lst) _ _ (St.enter [.func (.func g) #[] cap.toArray] _ rfl) (Mem.init hw (fun p hp => List.mem_map_of_mem hp) hnd)
  refine z_ ?_
  refine Run.nw nal ?_
  intro b2
  refine z_ ?_
  refine Run.nw nal ?_
  intro b3
  refine z_ ?_
  intro a1 w1 hs1 hm1
  have hfr1 : Fr [] w w1 := ⟨hm1.fr.os, hm1.fr.tape, hm1.fr.output, hm1.fr.size, fun k hk _ => by
    by_cases hin : k ∈ Lst.map (·.1)
    · obtain ⟨p, hp, rfl⟩ := List.mem_map.1 hin
      rw [hm1.has p (List.mem_cons_of_mem _ (List.mem_cons_of_mem _ hp)), hw p hp]
    · exact hm1.fr.block k hk hin⟩
  apply wpList_plain rfl
  intro K hK
  have hmf : (execOp a1.eval ⟨some 4, .makeFunc (.func 114) #[] #[.tmp 2, .tmp 3], 1, "wire.go:138", #[], none⟩).run Tryz.prog w1 = .ok (.value (.func (.func 114) #[] #[.pointer (some ⟨b2, 0, none⟩), .pointer (some ⟨b3, 0, none⟩)])) w1 := by
    have e2 := hs1.eval (x := .tmp 2) rfl
    have e3 := hs1.eval (x := .tmp 3) rfl
    simp [execOp, Instr.makeFunc, e2, e3]
  simp only [Oper.wp]
  erw [hmf]
  simp only [Oper.upon_value]
  apply hK
  have hs2 := hs1.put (d := 4) rfl (.func (.func 114) #[] #[.pointer (some ⟨b2, 0, none⟩), .pointer (some ⟨b3, 0, none⟩)])
  generalize Act.put a1 _ _ = a2 at hs2 ⊢
  clear hK K hmf
  apply wpList_plain rfl
  intro K hK
  have hdf : (execOp a2.eval ⟨none, .defer { callee := .value (.tmp 4), args := #[], argTypes := #[] }, 0, "wire.go:138", #[{ on := 0, ground := Ground.data }], none⟩).run Tryz.prog w1 = .ok (.defer ⟨.fn (.func 114) #[.pointer (some ⟨b2, 0, none⟩), .pointer (some ⟨b3, 0, none⟩)], #[]⟩) w1 := by
    have e4 := hs2.eval (x := .tmp 4) rfl
    simp [execOp, resolve, Deferred.ofValue, e4]
  simp only [Oper.wp]
  erw [hdf]
  simp only [Oper.upon_defer]
  apply hK
  have hs3 := hs2.sd [⟨.fn (.func 114) #[.pointer (some ⟨b2, 0, none⟩), .pointer (some ⟨b3, 0, none⟩)], #[]⟩]
  rw [hs2.defers]
  have he3 : Act.put { a2 with defers := [⟨.fn (.func 114) #[.pointer (some ⟨b2, 0, none⟩), .pointer (some ⟨b3, 0, none⟩)], #[]⟩] } none undef = { a2 with defers := [⟨.fn (.func 114) #[.pointer (some ⟨b2, 0, none⟩), .pointer (some ⟨b3, 0, none⟩)], #[]⟩] } := rfl
  erw [he3]
  generalize ({ a2 with defers := [⟨.fn (.func 114) #[.pointer (some ⟨b2, 0, none⟩), .pointer (some ⟨b3, 0, none⟩)], #[]⟩] } : Act) = a3 at hs3 ⊢
  clear hK K hdf he3 hs2 a2 hs1 a1
  refine (?_ : Code.wp _ (Code.seq _ _) _ a3 w1)
  apply wp_seq
  apply wp_region_lit
  apply wpList_plain rfl
  intro K hK
  have hmv := run_ev (P := Tryz.prog) (o := ⟨some 5, .move (.tmp 0), 1, "wire.go:143", #[], none⟩) rfl hs3.st w1
  simp only [Oper.wp]
  erw [hmv]
  simp only [Oper.upon_value]
  apply hK
  have hs4 := hs3.put (d := 5) rfl (.func (.func g) #[] cap.toArray)
  generalize Act.put a3 _ _ = a4 at hs4 ⊢
  clear hK K hmv hs3 a3
  apply wpList_plain rfl
  intro K hK
  have hcl := run_callF (P := Tryz.prog) (o := ⟨some 6, .call { callee := .value (.tmp 5), args := #[], argTypes := #[] }, 0, "wire.go:143", #[{ on := 0, ground := Ground.data }], none⟩) hs4.st rfl (xs := []) rfl hg hnm hb rfl w1
  simp only [Oper.wp]
  erw [hcl]
  simp only [Oper.upon_enter]
  have hec : (#[] ++ ([] : List Value).toArray ++ cap.toArray : Array Value) = cap.toArray := by simp
  rw [hec]
  refine (hc w1 hfr1).mono ?_
  rintro e w2 ⟨y, rfl, hfr, hbl, hnew, hndy⟩
  have hm2 := Turns.join hm1 (Lst := Lst) (Lr := [(b3, Obj.cells #[.bool false] 4 (0, 0)), (b2, Obj.cells #[.nilIface] 20 (0, 0))]) (by show ([(b3, Obj.cells #[.bool false] 4 (0, 0)), (b2, Obj.cells #[.nilIface] 20 (0, 0))] ++ Lst).Perm _; exact (perm_of fun f => by (simp only [List.map_append, List.map_cons, List.map_nil, List.sum_append, List.sum_cons, List.sum_nil] <;> omega))) hfr hbl hnew hndy
  clear hec hcl
  have h32 : b2 ≠ b3 := by
    have h := hm1.nd
    intro e
    subst e
    rw [List.map_cons, List.map_cons, List.nodup_cons] at h
    exact h.1 List.mem_cons_self
  have fin : ∀ (a : Act) (w' : World) (v2 v3 : Value), SD Tryz.f74.ntmps [(3, .pointer (some ⟨b3, 0, none⟩)), (2, .pointer (some ⟨b2, 0, none⟩))] [] { a with defers := [] } → Mem w (Lst.map (·.1)) (L' y ++ [(b3, Obj.cells #[v3] 4 (0, 0)), (b2, Obj.cells #[v2] 20 (0, 0))]) w' → #[v2, v3] = resO (o y) →
      ∃ v, (results Tryz.f74 a.tmps).run Tryz.prog w' = .ok v w' ∧ ∃ y, Ending.returned v = Ending.returned (.tuple (resO (o y))) ∧ Fr (Lst.map (·.1)) w w' ∧ Has (L' y) w' ∧ (∀ p ∈ L' y, w.heap.size ≤ p.1 ∨ p.1 ∈ Lst.map (·.1)) ∧ ((L' y).map (·.1)).Nodup := by
    intro a w' v2 v3 hs hm he
    have h2 := Res.cell (P := Tryz.prog) (n := Tryz.f74.ntmps) (w0 := w) (S0 := Lst.map (·.1)) (E := [(3, .pointer (some ⟨b3, 0, none⟩)), (2, .pointer (some ⟨b2, 0, none⟩))]) (L := L' y ++ [(b3, Obj.cells #[v3] 4 (0, 0)), (b2, Obj.cells #[v2] 20 (0, 0))]) tabOk (x := 2) (t := 20) (v := v2) rfl rfl memA1 rfl _ w' hs.st hm
    have h3 := Res.cell (P := Tryz.prog) (n := Tryz.f74.ntmps) (w0 := w) (S0 := Lst.map (·.1)) (E := [(3, .pointer (some ⟨b3, 0, none⟩)), (2, .pointer (some ⟨b2, 0, none⟩))]) (L := L' y ++ [(b3, Obj.cells #[v3] 4 (0, 0)), (b2, Obj.cells #[v2] 20 (0, 0))]) tabOk (x := 3) (t := 4) (v := v3) rfl rfl memA rfl _ w' hs.st hm
    refine ⟨.tuple #[v2, v3], ?_, y, by rw [he], hm.fr, fun p hp => hm.has p (List.mem_append_left _ hp), fun p hp => hm.own p (List.mem_append_left _ hp), hndy⟩
    rw [results_eq, show Tryz.f74.results = #[.cell 2 20, .cell 3 4] from rfl]
    simp only [] at h2 h3
    simp [h2, h3]
  cases ho : o y with
  | none =>
    apply hK
    have hs5 := hs4.put (d := 6) rfl (.tuple #[])
    generalize Act.put a4 _ _ = a5 at hs5 ⊢
    clear hK K hs4 a4
    refine (?_ : Code.wp _ (Code.seq _ _) _ a5 w2)
    apply wp_seq
    apply wp_region_lit
    have hm3 := hm2.row #[.nilIface] (b := b2) (cs := #[.nilIface]) (e := 20) (L' := L' y ++ [(b3, Obj.cells #[.bool false] 4 (0, 0))]) (perm_of fun f => by (simp only [List.map_append, List.map_cons, List.map_nil, List.sum_append, List.sum_cons, List.sum_nil] <;> omega))
    have hm4 := hm3.row #[.bool true] (b := b3) (cs := #[.bool false]) (e := 4) (L' := (b2, Obj.cells #[.nilIface] 20 (0, 0)) :: L' y) (perm_of fun f => by (simp only [List.map_append, List.map_cons, List.map_nil, List.sum_append, List.sum_cons, List.sum_nil] <;> omega))
    refine hs5.store tabOk (b := b2) #[.nilIface] rfl (show tiGet tab 20 = some _ from rfl) rfl rfl rfl rfl (hm2.has (b2, _) memA1) rfl (Nat.le_of_ble_eq_true rfl) (one1 rfl rfl) rfl ?_
    refine hs5.store tabOk (b := b3) #[.bool true] rfl (show tiGet tab 4 = some _ from rfl) rfl rfl rfl rfl (hm3.has (b3, _) (by repeat (first | exact List.mem_cons_self | apply List.mem_cons_of_mem | apply List.mem_append_right))) rfl (Nat.le_of_ble_eq_true rfl) (one1 rfl rfl) rfl ?_
    refine (?_ : Code.wp _ Code.ret _ a5 _)
    apply wp_ret
    show Leaves _ _ _ _ a5.defers .returning _
    rw [hs5.defers]
    refine leaves_cons (f := 114) (args := #[.pointer (some ⟨b2, 0, none⟩), .pointer (some ⟨b3, 0, none⟩)]) (by simp) (by simp [go_sem]) ?_
    refine (catch_idle b2 b3 _).mono ?_
    rintro e u' w'' ⟨rfl, rfl, rfl⟩
    exact fin a5 _ .nilIface (.bool true) ⟨rfl, hs5.size, fun t v h => hs5.env t v (Env.le_get (E' := [(3, .pointer (some ⟨b3, 0, none⟩)), (2, .pointer (some ⟨b2, 0, none⟩))]) ⟨rfl, rfl, trivial⟩ t v h)⟩ (hm4.perm (perm_of fun f => by (simp only [List.map_append, List.map_cons, List.map_nil, List.sum_append, List.sum_cons, List.sum_nil] <;> omega))) (by rw [ho]; rfl)
  | some p =>
    have hm3 := hm2.row #[.iface p.1 p.2] (b := b2) (cs := #[.nilIface]) (e := 20) (L' := L' y ++ [(b3, Obj.cells #[.bool false] 4 (0, 0))]) (perm_of fun f => by (simp only [List.map_append, List.map_cons, List.map_nil, List.sum_append, List.sum_cons, List.sum_nil] <;> omega))
    have hm4 := hm3.row #[.bool false] (b := b3) (cs := #[.bool false]) (e := 4) (L' := (b2, Obj.cells #[.iface p.1 p.2] 20 (0, 0)) :: L' y) (perm_of fun f => by (simp only [List.map_append, List.map_cons, List.map_nil, List.sum_append, List.sum_cons, List.sum_nil] <;> omega))
    show Leaves _ _ _ _ a4.defers (.panicking [{ v := .iface p.1 p.2, recovered := false }]) w2
    rw [hs4.defers]
    refine leaves_cons (f := 114) (args := #[.pointer (some ⟨b2, 0, none⟩), .pointer (some ⟨b3, 0, none⟩)]) (by simp) (by simp [go_sem]) ?_
    refine (catch_panicking b2 b3 h32 .nilIface (.bool false) p.1 p.2 [] w2 (hm2.has (b2, _) memA1) (hm2.has (b3, _) memA)).mono ?_
    rintro e u' w'' ⟨rfl, rfl, rfl⟩
    exact fin a4 _ (.iface p.1 p.2) (.bool false) ⟨rfl, hs4.size, fun t v h => hs4.env t v (Env.le_get (E' := [(3, .pointer (some ⟨b3, 0, none⟩)), (2, .pointer (some ⟨b2, 0, none⟩))]) ⟨rfl, rfl, trivial⟩ t v h)⟩ (hm4.perm (perm_of fun f => by (simp only [List.map_append, List.map_cons, List.map_nil, List.sum_append, List.sum_cons, List.sum_nil] <;> omega))) (by rw [ho]; rfl)
end Go.Proofs.YtfoeakgnkfcbjaaGreatDoor

/- wire: the function that Read guards. -/
namespace Go.Vc
open Go
section
variable {P : Program} {n : Nat} {w0 : World} {S0 : List Nat} {Q : Exit → Act → World → Prop} {E : Env} {L : Hp} {o : Oper} {d : Nat} {T : List (Nat × TI)} {t : Nat} {ti : TI}
theorem run_equalIn_func (d : Nat) {t : TypeId} {ps rs : Array TypeId} {vd : Bool} (h : P.underlying t = some (.func ps rs vd)) (f : Fn) (a b : Array Value) (w : World) : (Op.equalIn (d + 1) t (.func f a b) .nilFunc).run P w = .ok false w := by
  simp [Op.equalIn, run_underlying h]
theorem Val.funcNe (hT : TabOk P T) {x y : Operand} {f : Fn} {a b : Array Value} {ps rs : Array TypeId} {vd : Bool} {t2 : Nat} (ho : o.op = .binOp .neq t x y t2) (ht : tiGet T t = some ti) (hd : ti.desc = .func ps rs vd) (hx : lk E x = some (.func f a b)) (hy : lk E y = some .nilFunc) :
    Val P n w0 S0 E L o (.bool true) := by
  intro ac w hs _
  have h2 := (hT _ _ ht).1
  rw [hd] at h2
  have hg : (eqGuard .neq t x y (.func f a b) .nilFunc).run P w = .ok () w := by simp [eqGuard]
  have he : (Op.equal t (.func f a b) .nilFunc).run P w = .ok false w := by
    exact run_equalIn_func 9999 h2 f a b w
  simp [execOp, ho, hs.eval hx, hs.eval hy, hg, binOp, he]
theorem Val.mkF {f : FuncId} {fs cs : List Operand} {us vs : List Value} (ho : o.op = .makeFunc (.func f) fs.toArray cs.toArray) (hu : lkAll E fs = some us) (hv : lkAll E cs = some vs) : Val P n w0 S0 E L o (.func (.func f) us.toArray vs.toArray) := by
  intro ac w hs _
  have e1 := hs.evalAll hu
  have e2 := hs.evalAll hv
  simp [execOp, ho, Instr.makeFunc, ← e1, ← e2]
/-- What x.(T), of a struct type, gives, with ok. -/
theorem Val.assertNil (hT : TabOk P T) {x : Operand} {xt : TypeId} {fs : Array Field} (ho : o.op = .typeAssert x xt t true) (ht : tiGet T t = some ti) (hd : ti.desc = .struct fs) (hx : lk E x = some .nilIface) :
    Val P n w0 S0 E L o (.tuple #[ti.zero, .bool false]) := by
  intro ac w hs _
  have h2 := (hT _ _ ht).1
  rw [hd] at h2
  obtain ⟨_, i, hi, hsz, hby, hzz⟩ := hT _ _ ht
  simp [execOp, ho, hs.eval hx, Instr.typeAssert, run_underlying h2, zeroValue, typeInfo, hi, hzz]
theorem Val.assertNo (hT : TabOk P T) {x : Operand} {xt u : TypeId} {v : Value} {fs : Array Field} (ho : o.op = .typeAssert x xt t true) (ht : tiGet T t = some ti) (hd : ti.desc = .struct fs) (hx : lk E x = some (.iface u v)) (hu : u ≠ t) :
    Val P n w0 S0 E L o (.tuple #[ti.zero, .bool false]) := by
  intro ac w hs _
  have h2 := (hT _ _ ht).1
  rw [hd] at h2
  obtain ⟨_, i, hi, hsz, hby, hzz⟩ := hT _ _ ht
  simp [execOp, ho, hs.eval hx, Instr.typeAssert, run_underlying h2, zeroValue, typeInfo, hi, hzz, hu]
theorem Val.assertOk (hT : TabOk P T) {x : Operand} {xt : TypeId} {v : Value} {fs : Array Field} (ho : o.op = .typeAssert x xt t true) (ht : tiGet T t = some ti) (hd : ti.desc = .struct fs) (hx : lk E x = some (.iface t v)) :
    Val P n w0 S0 E L o (.tuple #[v, .bool true]) := by
  intro ac w hs _
  have h2 := (hT _ _ ht).1
  rw [hd] at h2
  simp [execOp, ho, hs.eval hx, Instr.typeAssert, run_underlying h2]
/-- A call of a function value that returns or panics. -/
theorem OpTo.callO {f : FuncId} {x : Operand} {first cap : Array Value} {xs : List Operand} {ts : Array TypeId} {fn : Func} {vs : List Value} {Lst Lr : Hp} (hf : P.funcs[f]? = some fn) {Y : Type} {r : Y → Option (TypeId × Value)} {L' : Y → Hp} (hL : L.Perm (Lst ++ Lr))
    (hc : ∀ w, Mem w0 S0 L w → TurnsO P f (first ++ vs.toArray ++ cap).toList w Lst r L')
    (hp : ∀ y p, r y = some p → RQ n w0 S0 (.panic [{ v := .iface p.1 p.2, recovered := false }]) Q E (L' y ++ Lr))
    (hnm : (fn.name == "runtime.NumGoroutine") = false) (hb : fn.body.isNone = false)
    (hd : o.dst = some d := by exact rfl) (hn : Nat.blt d n = true := by exact rfl)
    (ho : o.op = .call { callee := .value x, args := xs.toArray, argTypes := ts } := by exact rfl) (hfv : lk E x = some (.func (.func f) first cap) := by exact rfl)
    (hx : lkAll E xs = some vs := by exact rfl) : OpTo P n w0 S0 Q E L o (Y := {y : Y // r y = none}) (fun _ => (d, .tuple #[]) :: E) (fun y => L' y.1 ++ Lr) := by
  intro a w hs hm K hK
  simp only [Oper.wp, run_callF hs hfv ho hf hnm hb hx, Oper.upon_enter]
  have hc' := hc w hm
  unfold TurnsO at hc'
  rw [Array.toArray_toList] at hc'
  refine hc'.mono ?_
  rintro e w' ⟨y, rfl, hfr, hbl, hnew, hnd⟩
  have hm' := Turns.join hm hL hfr hbl hnew hnd
  cases hr : r y with
  | none =>
    simp only [endO, hd]
    exact hK ⟨y, hr⟩ _ _ (hs.put hn _) hm'
  | some p => exact hp y p hr a w' hs hm'
end
end Go.Vc
namespace Go.Proofs.YtfoeakgnkfcbjaaGreatDoor
attribute [local irreducible] Go.Vc.Run Go.Vc.RC Go.Vc.RQ Go.Vc.DR Go.Vc.DOp
open Go Go.Vc Go.Sha
set_option maxRecDepth 10000 in set_option maxHeartbeats 4000000 in
theorem Read1_calls {g : FuncId} {fg : Func} (hg : Tryz.prog.funcs[g]? = some fg) (hnm : (fg.name == "runtime.NumGoroutine") = false) (hb : fg.body.isNone = false) (capg : List Value) (bf br rb : Nat) (w : World) (Lst : Hp) (hw : Has Lst w) (hnd : (Lst.map (·.1)).Nodup) (hbf : bf ∉ Lst.map (·.1)) (hbr : br ∉ Lst.map (·.1))
    (h1 : w.heap[bf]? = some (.cells #[.func (.func g) #[] capg.toArray] 92 (0, 0))) (h2 : w.heap[br]? = some (.cells #[.pointer (some ⟨rb, 0, none⟩)] 85 (0, 0))) {Y : Type} {o : Y → Option (TypeId × Value)} {L' : Y → Hp}
    (hc : ∀ w', Fr [] w w' → TurnsO Tryz.prog g (.pointer (some ⟨rb, 0, none⟩) :: capg) w' Lst o L') :
    TurnsO Tryz.prog 75 [.pointer (some ⟨bf, 0, none⟩), .pointer (some ⟨br, 0, none⟩)] w Lst o L' := by
  refine enter Tryz.func75 rfl (Mem.init (S0 := Lst.map (·.1)) hw (fun p hp => List.mem_map_of_mem hp) hnd) rfl ?_
  have hc1 : w.cell? ⟨bf, 0, none⟩ = some (.func (.func g) #[] capg.toArray) := by rw [cell_of_row w bf 0 _ _ _ h1]; rfl
  have hc2 : w.cell? ⟨br, 0, none⟩ = some (.pointer (some ⟨rb, 0, none⟩)) := by rw [cell_of_row w br 0 _ _ _ h2]; rfl
  refine z_ ?_
  refine Run.a (vlo hc1 (hS := hbf)) ?_
  refine Run.a (Val.funcNe tabOk rfl rfl rfl rfl rfl) ?_
  refine z_ ?_
  refine Run.a (vlo hc1 (hS := hbf)) ?_
  refine Run.a (vlo hc2 (hS := hbr)) ?_
  have hz : Lst.Perm (Lst ++ []) := by rw [List.append_nil]
  refine Run.op1 (OpTo.callO (r := o) (L' := L') hg hz (fun w' hm' => ?_) (fun y p hp => ?_) hnm hb) ?_
  · rw [show (#[] ++ [Value.pointer (some ⟨rb, 0, none⟩)].toArray ++ capg.toArray : Array Value).toList = .pointer (some ⟨rb, 0, none⟩) :: capg from by simp]
    refine hc w' ⟨hm'.fr.os, hm'.fr.tape, hm'.fr.output, hm'.fr.size, fun k hk _ => ?_⟩
    by_cases hin : k ∈ Lst.map (·.1)
    · obtain ⟨p, hp, rfl⟩ := List.mem_map.1 hin
      rw [hm'.has p hp, hw p hp]
    · exact hm'.fr.block k hk hin
  · repeat first | refine RQ.thenPanic ?_ | refine RQ.blockPanic ?_
    exact RQ.panic fun w' hm => TurnsO.of y (by rw [hp]; rfl) hm (Lr := []) (List.Perm.refl _)
  rintro ⟨y, hy⟩
  dsimp only
  refine z_ ?_
  exact RQ.end0 rfl fun w' hm => TurnsO.of y (by rw [hy]; rfl) hm (Lr := []) (List.Perm.refl _)
end Go.Proofs.YtfoeakgnkfcbjaaGreatDoor

/- wire: Read. -/
namespace Go.Vc
open Go
theorem Mem.frNil {w w' : World} {Lst L : Hp} (h : Mem w (Lst.map (·.1)) L w') (hs : ∀ p ∈ Lst, p ∈ L) (hw : Has Lst w) : Fr [] w w' :=
  ⟨h.fr.os, h.fr.tape, h.fr.output, h.fr.size, fun k hk _ => by
    by_cases hin : k ∈ Lst.map (·.1)
    · obtain ⟨p, hp, rfl⟩ := List.mem_map.1 hin
      rw [h.has p (hs p hp), hw p hp]
    · exact h.fr.block k hk hin⟩
/-- A block beside Lst is new. -/
theorem Mem.fresh {w w' : World} {Lst L : Hp} (h : Mem w (Lst.map (·.1)) L w') {p : Nat × Obj} (hp : p ∈ L) (hn : p.1 ∉ Lst.map (·.1)) : w.heap.size ≤ p.1 := (h.own p hp).resolve_right hn
end Go.Vc
namespace Go.Proofs.YtfoeakgnkfcbjaaGreatDoor
attribute [local irreducible] Go.Vc.Run Go.Vc.RC Go.Vc.RQ Go.Vc.DR Go.Vc.DOp
open Go Go.Vc Go.Sha
abbrev RdC (a : Option Addr) (n k : Nat) : Obj := .cells #[.slice a n n, .int .i64 k] 134 (0, 0)
/-- What Read answers. -/
def readE (r : Option (TypeId × Value)) (n k : Nat) : Int :=
  match r with
  | none => if k < n then 4 else 0
  | some p => if p.1 = 126 then 2 else 4
set_option maxRecDepth 10000 in set_option maxHeartbeats 4000000 in
theorem Read_calls (a : Option Addr) (n c : Nat) (hn : n ≤ 131072) (hc : n ≤ c) (fv : Value) (hfv : fv.cells = #[fv]) (w : World) (Lst : Hp) (hw : Has Lst w) (hnd : (Lst.map (·.1)).Nodup) {Y : Type} {o : Y → Option (TypeId × Value)} {k : Y → Nat} (hk : ∀ y, k y ≤ n) (hsh : ∀ y pv, o y = some (126, pv) → pv = .agg #[]) {L' : Y → Hp}
    (h1 : ∀ rb bf br w', Fr [] w w' → w.heap.size ≤ rb → w.heap.size ≤ bf → w.heap.size ≤ br → rb ≠ bf → rb ≠ br → w'.heap[rb]? = some (RdC a n 0) → w'.heap[bf]? = some (.cells #[fv] 92 (0, 0)) → w'.heap[br]? = some (.cells #[.pointer (some ⟨rb, 0, none⟩)] 85 (0, 0)) →
      Has ((rb, RdC a n 0) :: Lst) w' → (((rb, RdC a n 0) :: Lst).map (·.1)).Nodup → bf ∉ ((rb, RdC a n 0) :: Lst).map (·.1) → br ∉ ((rb, RdC a n 0) :: Lst).map (·.1) →
      TurnsO Tryz.prog 75 [.pointer (some ⟨bf, 0, none⟩), .pointer (some ⟨br, 0, none⟩)] w' ((rb, RdC a n 0) :: Lst) o (fun y => (rb, RdC a n (k y)) :: L' y)) :
    Turns Tryz.prog 40 [.slice a n c, fv] w Lst (Y := Y) (fun y => .int .i64 (readE (o y) n (k y))) L' := by
  refine enter Tryz.func40 rfl (Mem.init (S0 := Lst.map (·.1)) hw (fun p hp => List.mem_map_of_mem hp) hnd) rfl ?_
  refine z_ ?_
  refine Run.nw (nbs (v := fv)) ?_
  rw [hfv]
  intro bf
  refine z_ ?_
  refine Run.op1 (OpTo.callNew Tryz.func73 rfl rfl rfl rfl rfl rfl (fun w' hm => NewReader_calls a n c (by omega) hc w')) ?_
  intro rb
  dsimp only
  refine z_ ?_
  refine Run.nw nal ?_
  intro br
  refine z_ ?_
  refine Run.op1 (os1 #[.pointer (some ⟨rb, 0, none⟩)]) (fun _ => ?_)
  refine z_ ?_
  refine Run.a (Val.mkF (us := []) rfl rfl rfl) ?_
  have hp1 : ([(br, Obj.cells #[.pointer (some ⟨rb, 0, none⟩)] 85 (0, 0)), (rb, RdC a n 0), (bf, Obj.cells #[fv] 92 (0, 0))] ++ Lst : Hp).Perm (((rb, RdC a n 0) :: Lst) ++ [(br, Obj.cells #[.pointer (some ⟨rb, 0, none⟩)] 85 (0, 0)), (bf, Obj.cells #[fv] 92 (0, 0))]) := (perm_of fun f => by (simp only [List.map_append, List.map_cons, List.map_nil, List.sum_append, List.sum_cons, List.sum_nil] <;> omega))
  have hBR : ∀ w', Mem w (Lst.map (·.1)) ([(br, Obj.cells #[.pointer (some ⟨rb, 0, none⟩)] 85 (0, 0)), (rb, RdC a n 0), (bf, Obj.cells #[fv] 92 (0, 0))] ++ Lst) w' → Turns Tryz.prog 74 [.func (.func 75) #[] #[.pointer (some ⟨bf, 0, none⟩), .pointer (some ⟨br, 0, none⟩)]] w' ((rb, RdC a n 0) :: Lst) (Y := Y) (fun y => .tuple (resO (o y))) (fun y => (rb, RdC a n (k y)) :: L' y) := by
    intro w' hm
    have hnd' := hm.nd
    simp only [List.cons_append, List.nil_append, List.map_cons, List.nodup_cons, List.mem_cons, not_or] at hnd'
    obtain ⟨⟨n1, n2, n3⟩, ⟨n4, n5⟩, n6, n7⟩ := hnd'
    have hA : Has ((rb, RdC a n 0) :: Lst) w' := fun p hp => hm.has p ((hp1.mem_iff).2 (List.mem_append_left _ hp))
    have hN : (((rb, RdC a n 0) :: Lst).map (·.1)).Nodup := by rw [List.map_cons, List.nodup_cons]; exact ⟨n5, n7⟩
    refine guarded_calls Tryz.func75 rfl rfl [.pointer (some ⟨bf, 0, none⟩), .pointer (some ⟨br, 0, none⟩)] w' _ hA hN (fun w'' hf => ?_)
    have hm' := hm.ext hf
    exact h1 rb bf br w'' ((hm.frNil (fun p hp => List.mem_append_right _ hp) hw).trans hf) (hm.fresh (p := (rb, RdC a n 0)) (by repeat (first | exact List.mem_cons_self | apply List.mem_cons_of_mem | apply List.mem_append_right)) n5) (hm.fresh (p := (bf, Obj.cells #[fv] 92 (0, 0))) (by repeat (first | exact List.mem_cons_self | apply List.mem_cons_of_mem | apply List.mem_append_right)) n6) (hm.fresh (p := (br, Obj.cells #[.pointer (some ⟨rb, 0, none⟩)] 85 (0, 0))) (by repeat (first | exact List.mem_cons_self | apply List.mem_cons_of_mem | apply List.mem_append_right)) n3) n4 (fun e => n1 e.symm)
      (hm'.has (rb, _) (by repeat (first | exact List.mem_cons_self | apply List.mem_cons_of_mem | apply List.mem_append_right))) (hm'.has (bf, _) (by repeat (first | exact List.mem_cons_self | apply List.mem_cons_of_mem | apply List.mem_append_right))) (hm'.has (br, _) (by repeat (first | exact List.mem_cons_self | apply List.mem_cons_of_mem | apply List.mem_append_right))) (hA.fr hf) hN (by rw [List.map_cons, List.mem_cons, not_or]; exact ⟨fun e => n4 e.symm, n6⟩) (by rw [List.map_cons, List.mem_cons, not_or]; exact ⟨n1, n3⟩)
  refine Run.op1 (OpTo.callT (Y := Y) (V := fun y => .tuple (resO (o y))) (L' := fun y => (rb, RdC a n (k y)) :: L' y) Tryz.func74 hp1 hBR) ?_
  intro y
  have hky := hk y
  cases ho : o y with
  | none =>
    dsimp only [resO]
    refine z_ ?_
    refine Run.a (Val.assertNil tabOk rfl rfl rfl rfl) ?_
    refine z_ ?_
    refine Run.nw nal ?_
    intro b8
    refine z_ ?_
    refine Run.op1 (osa #[] (by simp)) (fun _ => ?_)
    refine z_ ?_
    refine Run.op1 (OpTo.cv Tryz.func76 (fun w' hm => RLeft_calls rb n n (k y) a (by omega) hky w' (hm.has (rb, RdC a n (k y)) (by repeat (first | exact List.mem_cons_self | apply List.mem_cons_of_mem | apply List.mem_append_right))))) (fun _ => ?_)
    by_cases hlt : k y < n
    · refine z_ ?_
      exact RQ.ret1 rfl (Res.tmp rfl) fun w' hm => by rw [← show readE (o y) n (k y) = 4 from by rw [ho]; exact if_pos hlt]; exact Turns.of (Y := Y) (V := fun y => .int .i64 (readE (o y) n (k y))) y hm (Lr := [(b8, Obj.cells #[] 126 (0, 0)), (rb, RdC a n (k y)), (br, Obj.cells #[.pointer (some ⟨rb, 0, none⟩)] 85 (0, 0)), (bf, Obj.cells #[fv] 92 (0, 0))]) (perm_of fun f => by (simp only [List.map_append, List.map_cons, List.map_nil, List.sum_append, List.sum_cons, List.sum_nil] <;> omega))
    · refine z_ ?_
      exact RQ.ret1 rfl (Res.tmp rfl) fun w' hm => by rw [← show readE (o y) n (k y) = 0 from by rw [ho]; exact if_neg hlt]; exact Turns.of (Y := Y) (V := fun y => .int .i64 (readE (o y) n (k y))) y hm (Lr := [(b8, Obj.cells #[] 126 (0, 0)), (rb, RdC a n (k y)), (br, Obj.cells #[.pointer (some ⟨rb, 0, none⟩)] 85 (0, 0)), (bf, Obj.cells #[fv] 92 (0, 0))]) (perm_of fun f => by (simp only [List.map_append, List.map_cons, List.map_nil, List.sum_append, List.sum_cons, List.sum_nil] <;> omega))
  | some p =>
    obtain ⟨pt, pv⟩ := p
    dsimp only [resO]
    refine z_ ?_
    by_cases hpt : pt = 126
    · subst hpt
      have hpv := hsh y pv ho
      subst hpv
      refine Run.a (Val.assertOk tabOk rfl rfl rfl rfl) ?_
      refine z_ ?_
      refine Run.nw nal ?_
      intro b8
      refine z_ ?_
      refine Run.op1 (osa #[] (by simp)) (fun _ => ?_)
      refine z_ ?_
      exact RQ.ret1 rfl (Res.tmp rfl) fun w' hm => by rw [← show readE (o y) n (k y) = 2 from by rw [ho]; rfl]; exact Turns.of (Y := Y) (V := fun y => .int .i64 (readE (o y) n (k y))) y hm (Lr := [(b8, Obj.cells #[] 126 (0, 0)), (rb, RdC a n (k y)), (br, Obj.cells #[.pointer (some ⟨rb, 0, none⟩)] 85 (0, 0)), (bf, Obj.cells #[fv] 92 (0, 0))]) (perm_of fun f => by (simp only [List.map_append, List.map_cons, List.map_nil, List.sum_append, List.sum_cons, List.sum_nil] <;> omega))
    · refine Run.a (Val.assertNo tabOk rfl rfl rfl rfl hpt) ?_
      refine z_ ?_
      refine Run.nw nal ?_
      intro b8
      refine z_ ?_
      refine Run.op1 (osa #[] (by simp)) (fun _ => ?_)
      refine z_ ?_
      exact RQ.ret1 rfl (Res.tmp rfl) fun w' hm => by rw [← show readE (o y) n (k y) = 4 from by rw [ho]; exact if_neg hpt]; exact Turns.of (Y := Y) (V := fun y => .int .i64 (readE (o y) n (k y))) y hm (Lr := [(b8, Obj.cells #[] 126 (0, 0)), (rb, RdC a n (k y)), (br, Obj.cells #[.pointer (some ⟨rb, 0, none⟩)] 85 (0, 0)), (bf, Obj.cells #[fv] 92 (0, 0))]) (perm_of fun f => by (simp only [List.map_append, List.map_cons, List.map_nil, List.sum_append, List.sum_cons, List.sum_nil] <;> omega))
end Go.Proofs.YtfoeakgnkfcbjaaGreatDoor

/- wire: the reader's Hash, short. -/
namespace Go.Proofs.YtfoeakgnkfcbjaaGreatDoor
attribute [local irreducible] Go.Vc.Run Go.Vc.RC Go.Vc.RQ Go.Vc.DR Go.Vc.DOp
open Go Go.Vc Go.Sha
theorem RHash_short (rb n c k : Nat) (a : Option Addr) (hn : n ≤ 1000000) (hk : k ≤ n) (hm : n - k < 8) (w : World) (hs : w.heap[rb]? = some (.cells #[.slice a n c, .int .i64 k] 134 (0, 0))) :
    Calls Tryz.prog 42 #[.pointer (some ⟨rb, 0, none⟩)] w fun e w' => e = .panicked shortP ∧ Fr [] w w' := by
  refine enter (vs := [.pointer (some ⟨rb, 0, none⟩)]) Tryz.func42 rfl (Mem.nil w []) rfl ?_
  refine z_ ?_
  refine Run.nw nal ?_
  intro b2
  refine z_ ?_
  refine Run.nw nal ?_
  intro b3
  refine z_ ?_
  refine Run.a (Val.ptrNe2 tabOk rfl rfl rfl rfl rfl) ?_
  refine z_ ?_
  (repeat refine RC.seq ?_); refine RC.draw ([(b3, Obj.cells (u8s [0, 0, 0, 0, 0, 0, 0, 0]).toArray 23 (0, 0))]) mixed (N := 4) rfl ?_
  refine DR.t 0 rfl (Val.sliceA tabOk rfl rfl rfl rfl rfl) ?_
  refine dt 1 ?_
  refine DR.c 2 (DOp.op1 rfl (OpTo.callP (Y := Empty) (Z := Unit) (V := fun y => y.elim) (L' := fun y => y.elim) (C := fun _ => shortP) (Lp := fun _ => []) Tryz.func77 (fun w' hm' => (take_short rb n c k 8 a hn hk hm w' (hm'.old hs)).mono ?_) (fun _ => ?_)) (fun y => y.elim) (hl := .inl fun y => y.elim))
  · rintro e w'' ⟨rfl, hf⟩
    exact .inr ⟨(), rfl, (hm'.ext hf).sublist (List.nil_sublist _)⟩
  · repeat first | refine RQ.thenPanic ?_ | refine RQ.blockPanic ?_
    exact RQ.panic fun w' hm => ⟨rfl, hm.fr⟩
end Go.Proofs.YtfoeakgnkfcbjaaGreatDoor
end
