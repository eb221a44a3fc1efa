import Derived.Test.YtmajfapnbchecaaGreatDoorTxV
import Derived.Test.YtmajfapnbchecaaGreatDoorDigZ
set_option linter.unusedSimpArgs false
set_option linter.unusedVariables false
/- tx: digest, ID, the reference's TxID, Same, SameTx. -/
namespace Go.Proofs.YtmajfapnbchecaaGreatDoor
attribute [local irreducible] Go.Vc.Run Go.Vc.RC Go.Vc.RQ Go.Vc.DR Go.Vc.DOp Go.Vc.Knows Go.Vc.At
set_option maxHeartbeats 400000
open Go Go.Vc Go.Sha
/-- The digest of a transaction, with parts behind it. -/
noncomputable def dgH (p : Nat) (t : TxD) (ls : List (List Nat)) : List Nat := if TxMay t then digest p (t.b :: ls) else List.replicate 8 0
theorem dgH_len (p : Nat) (t : TxD) (ls : List (List Nat)) : (dgH p t ls).length = 8 := by
  unfold dgH
  split
  · exact digest_len _ _
  · rfl
theorem Parts.one {w : World} {vs : List Value} {ls : List (List Nat)} (h : Parts w vs ls) : ∀ u ∈ vs, u.oneCell' = true := by
  intro u hu
  obtain ⟨i, hi, rfl⟩ := List.mem_iff_getElem.1 hu
  exact (h.2 i hi (by rw [← h.1]; exact hi)).one
theorem Parts.cons {w : World} {u : Value} {l : List Nat} {vs : List Value} {ls : List (List Nat)} (hu : SrcW w 1 u l.length (u8s l)) (h : Parts w vs ls) : Parts w (u :: vs) (l :: ls) := by
  refine ⟨by rw [List.length_cons, List.length_cons, h.1], fun i h1 h2 => ?_⟩
  cases i with
  | zero => exact hu
  | succ i => exact h.2 i (by simpa using h1) (by simpa using h2)
theorem Parts.nil {w : World} : Parts w [] [] := ⟨rfl, fun i h _ => absurd h (by simp)⟩
theorem bt_tx {t : TxD} (h : TxMay t) : ∀ x ∈ t.b, x < 256 := TxD.bt h.rg
set_option maxRecDepth 10000 in set_option maxHeartbeats 4000000 in
theorem Tdigest_calls (p : Nat) (hp : p < 256) (t : TxD) (v : TxV) (hln : TxLn t) (pv : Value) (vs : List Value) (ls : List (List Nat)) (w : World) (ht : TxAt w t v) (hs : SrcW w 1 pv ls.length vs) (hps : Parts w vs ls) (hll : ls.length ≤ 4) (htl : tot ls ≤ 1000) (hlb : ∀ l ∈ ls, ∀ x ∈ l, x < 256) (hK : Laid w) :
    Gives Tryz.prog 35 [.int .u8 p, .agg (txC t v).toArray, pv] (.tuple #[.agg (u8s (dgH p t ls)).toArray, .bool (decide (TxMay t))]) w := by
  refine enter Tryz.func35 rfl (Mem.nil w []) rfl ?_
  obtain ⟨pa, pc, rfl, hpc⟩ := hs.shape
  have hFs : (txC t v).toArray.size = 170 := by rw [List.size_toArray, txC_len]
  have hE : ∀ w', Fr [] w w' → Turns Tryz.prog 9 [.agg (txC t v).toArray] w' [] (Y := EncY t) (fun y => .tuple #[y.1.1, .int .i64 (encE t)]) (fun y => y.1.2) := fun w' hf => TEncode_calls t v hln w' (ht.fr hf)
  generalize txC t v = F at hFs hE ⊢
  refine z_ ?_
  refine Run.nw nbx ?_
  intro b4
  refine z_ ?_
  refine Run.nw nal ?_
  intro b6
  refine x_ ?_
  have hz0 : ([(b6, Obj.cells (u8s (List.replicate 8 0)).toArray 31 (0, 0)), (b4, Obj.cells F.toArray 41 (0, 0))] : Hp).Perm ([] ++ [(b6, Obj.cells (u8s (List.replicate 8 0)).toArray 31 (0, 0)), (b4, Obj.cells F.toArray 41 (0, 0))]) := List.Perm.refl _
  refine Run.op1 (OpTo.callT Tryz.func9 hz0 (fun w' hm => hE w' hm.fr)) ?_
  rintro ⟨⟨v12, l12⟩, h12⟩
  dsimp only at h12 ⊢
  by_cases hm : TxMay t
  rotate_left
  · rw [show encE t = 1 from if_neg hm, show dgH p t ls = List.replicate 8 0 from if_neg hm, decide_eq_false hm]
    refine x_ ?_
    refine Run.op1 (osa (arr := (u8s (List.replicate 8 0)).toArray) (e := 31) (L' := l12 ++ [(b4, Obj.cells F.toArray 41 (0, 0))]) (u8s (List.replicate 8 0)).toArray (u8s_one _) (hL := (perm_of fun f => by (simp only [List.map_append, List.map_cons, List.map_nil, List.sum_append, List.sum_cons, List.sum_nil] <;> omega)))) (fun _ => ?_)
    refine x_ ?_
    exact RQ.ret2 rfl (Res.cellAll tabOk rfl rfl rfl m0 rfl) (Res.tmp rfl) fun w' hm' => ⟨rfl, hm'.fr⟩
  rw [show encE t = 0 from if_pos hm, decide_eq_true hm]
  rw [show encB t = t.b from if_pos hm] at h12
  have hd : dgH p t ls = digest p (t.b :: ls) := if_pos hm
  rw [hd]
  have hd8 : (digest p (t.b :: ls)).length = 8 := digest_len _ _
  have hbl := hm.bl
  obtain ⟨a12, c12, rfl, hc12⟩ := h12.shape
  refine x_ ?_
  refine Run.nw (nbsk (parts := [(0, .tmp 19)]) #[.slice a12 t.b.length c12]) ?_
  intro b20
  refine x_ ?_
  have hown : Own 22 1 (.slice (some ⟨b20, 0, none⟩) 1 1) 1 [.slice a12 t.b.length c12] [(b20, Obj.cells #[.slice a12 t.b.length c12] 22 (0, 0))] := Own.row b20 1 1 [.slice a12 t.b.length c12] [] rfl rfl (Nat.le_refl _) (by unfold maxLen; decide)
  refine Run.op1 (OpTo.append (L1 := l12 ++ [(b6, Obj.cells (u8s (List.replicate 8 0)).toArray 31 (0, 0)), (b4, Obj.cells F.toArray 41 (0, 0))]) tabOk hown hs.src rfl rfl rfl rfl rfl rfl rfl rfl rfl (List.Perm.refl _) hps.one (by unfold maxLen; omega) (by simp only [ti22]; omega)) ?_
  rintro ⟨⟨v22, l22⟩, h22⟩
  dsimp only at h22 ⊢
  have hfinal : ∀ w', Mem w [] (l22 ++ (l12 ++ [(b6, Obj.cells (u8s (List.replicate 8 0)).toArray 31 (0, 0)), (b4, Obj.cells F.toArray 41 (0, 0))])) w' → Gives Tryz.prog 38 [.int .u8 p, v22] (.agg (u8s (digest p (t.b :: ls))).toArray) w' := fun w' hm' => by
    have hsw : SrcW w' 1 v22 (t.b :: ls).length (.slice a12 t.b.length c12 :: vs) := by
      have h := h22.srcW (w := w') (fun q hq => hm'.has q (List.mem_append_left _ hq))
      rw [Nat.add_comm] at h
      exact h
    refine Of_calls p hp v22 (.slice a12 t.b.length c12 :: vs) (t.b :: ls) w' hsw (Parts.cons (h12.srcW (fun q hq => hm'.has q (List.mem_append_right _ (List.mem_append_left _ hq)))) (hps.fr hm'.fr)) ?_ ?_ (hK.fr hm'.fr (by simp))
    · show ((t.b :: ls).map fun l => 4 + l.length).sum ≤ _
      rw [List.map_cons, List.sum_cons]
      have : (ls.map fun l => 4 + l.length).sum ≤ 1000 := htl
      omega
    · intro l hl
      rcases List.mem_cons.1 hl with rfl | hl
      · exact bt_tx hm
      · exact hlb l hl
  refine Run.op1 (OpTo.cv Tryz.func38 (fun w' hm' => hfinal w' hm')) (fun _ => ?_)
  refine x_ ?_
  refine Run.op1 (osa (arr := (u8s (List.replicate 8 0)).toArray) (e := 31) (L' := l22 ++ (l12 ++ [(b4, Obj.cells F.toArray 41 (0, 0))])) (u8s (digest p (t.b :: ls))).toArray (u8s_one _) (hL := (perm_of fun f => by (simp only [List.map_append, List.map_cons, List.map_nil, List.sum_append, List.sum_cons, List.sum_nil] <;> omega))) (hs := by rw [List.size_toArray, u8s_len, hd8]; rfl)) (fun _ => ?_)
  refine x_ ?_
  exact RQ.ret2 rfl (Res.cellAll tabOk rfl rfl rfl m0 (by rw [List.size_toArray, u8s_len, hd8]; rfl)) (Res.tmp rfl) fun w' hm' => ⟨rfl, hm'.fr⟩
set_option maxRecDepth 10000 in set_option maxHeartbeats 4000000 in
theorem TID_calls (t : TxD) (v : TxV) (hln : TxLn t) (w : World) (ht : TxAt w t v) (hK : Laid w) : Gives Tryz.prog 17 [.agg (txC t v).toArray] (.tuple #[.agg (u8s (dgH 120 t [])).toArray, .bool (decide (TxMay t))]) w := by
  refine enter Tryz.func17 rfl (Mem.nil w []) rfl ?_
  have hFs : (txC t v).toArray.size = 170 := by rw [List.size_toArray, txC_len]
  have c1 : Knows Tryz.prog w 35 [.int .u8 120, .agg (txC t v).toArray, .slice none 0 0] (.tuple #[.agg (u8s (dgH 120 t [])).toArray, .bool (decide (TxMay t))]) := Knows.mk Tryz.func35 (fun w' hf => Tdigest_calls 120 (by decide) t v hln (.slice none 0 0) [] [] w' (ht.fr hf) .nil Parts.nil (by decide) (by decide) (fun l hl => by cases hl) (hK.fr hf (by simp)))
  have h8 := dgH_len 120 t []
  generalize txC t v = F at hFs c1 ⊢
  generalize dgH 120 t [] = D at h8 c1 ⊢
  refine z_ ?_
  refine Run.nw nbx ?_
  intro b1
  refine z_ ?_
  refine Run.nw nal ?_
  intro b2
  refine x_ ?_
  refine Run.op1 (osa (arr := ti31.zero.cells) (u8s D).toArray (u8s_one _) (hs := by rw [List.size_toArray, u8s_len, h8]; rfl)) (fun _ => ?_)
  refine x_ ?_
  exact RQ.ret2 rfl (Res.cellAll tabOk rfl rfl rfl m0 (by rw [List.size_toArray, u8s_len, h8]; rfl)) (Res.tmp rfl) fun w' hm' => ⟨rfl, hm'.fr⟩
/-- Both may be, and their bytes are the same. -/
def SameP (a b : TxD) : Prop := TxMay a ∧ TxMay b ∧ a.b = b.b
noncomputable instance (a b : TxD) : Decidable (SameP a b) := Classical.propDecidable _
set_option maxRecDepth 10000 in set_option maxHeartbeats 4000000 in
theorem RSame_calls (s t : TxD) (u v : TxV) (hls : TxLn s) (hln : TxLn t) (w : World) (hs : TxAt w s u) (ht : TxAt w t v) : Gives Tryz.prog 25 [.agg (txC s u).toArray, .agg (txC t v).toArray] (.bool (decide (SameP s t))) w := by
  refine enter Tryz.func25 rfl (Mem.nil w []) rfl ?_
  have hFs : (txC s u).toArray.size = 170 := by rw [List.size_toArray, txC_len]
  have hGs : (txC t v).toArray.size = 170 := by rw [List.size_toArray, txC_len]
  have hE : ∀ w', Fr [] w w' → Turns Tryz.prog 36 [.agg (txC s u).toArray] w' [] (Y := EncY s) (fun y => .tuple #[y.1.1, .int .i64 (encE s)]) (fun y => y.1.2) := fun w' hf => REncode_calls s u hls w' (hs.fr hf)
  have hE2 : ∀ w', Fr [] w w' → Turns Tryz.prog 36 [.agg (txC t v).toArray] w' [] (Y := EncY t) (fun y => .tuple #[y.1.1, .int .i64 (encE t)]) (fun y => y.1.2) := fun w' hf => REncode_calls t v hln w' (ht.fr hf)
  generalize txC s u = F at hFs hE ⊢
  generalize txC t v = G at hGs hE2 ⊢
  refine z_ ?_
  refine Run.nw nbx ?_
  intro b2
  refine z_ ?_
  refine Run.nw nbx ?_
  intro b3
  refine x_ ?_
  have hz0 : ([(b3, Obj.cells G.toArray 41 (0, 0)), (b2, Obj.cells F.toArray 41 (0, 0))] : Hp).Perm ([] ++ [(b3, Obj.cells G.toArray 41 (0, 0)), (b2, Obj.cells F.toArray 41 (0, 0))]) := List.Perm.refl _
  refine Run.op1 (OpTo.callT Tryz.func36 hz0 (fun w' hm => hE w' hm.fr)) ?_
  rintro ⟨⟨v1, l1⟩, h1⟩
  dsimp only at h1 ⊢
  refine x_ ?_
  have hz1 : (l1 ++ [(b3, Obj.cells G.toArray 41 (0, 0)), (b2, Obj.cells F.toArray 41 (0, 0))] : Hp).Perm ([] ++ (l1 ++ [(b3, Obj.cells G.toArray 41 (0, 0)), (b2, Obj.cells F.toArray 41 (0, 0))])) := List.Perm.refl _
  refine Run.op1 (OpTo.callT Tryz.func36 hz1 (fun w' hm => hE2 w' hm.fr)) ?_
  rintro ⟨⟨v2, l2⟩, h2⟩
  dsimp only at h2 ⊢
  by_cases ha : TxMay s
  rotate_left
  · rw [show encE s = 1 from if_neg ha, decide_eq_false (fun h : SameP s t => ha h.1)]
    refine x_ ?_
    exact RQ.ret1 rfl (Res.tmp rfl) fun w' hm => ⟨rfl, hm.fr⟩
  rw [show encE s = 0 from if_pos ha]
  rw [show encB s = s.b from if_pos ha] at h1
  by_cases hb : TxMay t
  rotate_left
  · rw [show encE t = 1 from if_neg hb, decide_eq_false (fun h : SameP s t => hb h.2.1)]
    refine x_ ?_
    exact RQ.ret1 rfl (Res.tmp rfl) fun w' hm => ⟨rfl, hm.fr⟩
  rw [show encE t = 0 from if_pos hb]
  rw [show encB t = t.b from if_pos hb] at h2
  have e : decide (SameP s t) = decide (s.b = t.b) := decide_eq_decide.2 ⟨fun h => h.2.2, fun h => ⟨ha, hb, h⟩⟩
  rw [e]
  refine x_ ?_
  refine Run.a (Val.bytesStr (a := s.b) tabOk rfl rfl rfl rfl rfl rfl rfl rfl (h1.src (fun q hq => List.mem_append_right _ (List.mem_append_left _ hq)))) ?_
  refine x_ ?_
  refine Run.a (Val.bytesStr (a := t.b) tabOk rfl rfl rfl rfl rfl rfl rfl rfl (h2.src (fun q hq => List.mem_append_left _ hq))) ?_
  refine Run.a (Val.eqStr (a := s.b) (b := t.b) rfl rfl rfl (bt_tx ha) (bt_tx hb)) ?_
  refine x_ ?_
  exact RQ.ret1 rfl (Res.tmp rfl) fun w' hm => ⟨rfl, hm.fr⟩
end Go.Proofs.YtmajfapnbchecaaGreatDoor

/- tx: Message. -/
namespace Go.Vc
open Go Go.Sha
/-- A part of an element of a row is written. -/
theorem wr_part {α : Type} {c : α → List Value} {sz : Nat} (hc : ∀ a, (c a).length = sz) {l : List α} {i : Nat} {s : α} (x : α) (h : l[i]? = some s) {rest A old new B : List Value} (e1 : c s = A ++ (old ++ B)) (e2 : c x = A ++ (new ++ B)) (hl : old.length = new.length) (k : Nat) (hk : k = A.length) : wrAt (rws c l ++ rest).toArray (i * sz + k) new = (rws c (l.set i x) ++ rest).toArray := by
  obtain ⟨e, hn⟩ := rws_split hc h
  rw [e, rws_set h, e1, e2]
  generalize rws c (l.take i) = X at hn ⊢
  generalize rws c (l.drop (i + 1)) = Z
  have := wr_mid' (X ++ A) old new (B ++ Z ++ rest) hl (i * sz + k) (by rw [List.length_append, hn, hk])
  simpa only [List.append_assoc] using this
end Go.Vc
namespace Go.Proofs.YtmajfapnbchecaaGreatDoor
attribute [local irreducible] Go.Vc.Run Go.Vc.RC Go.Vc.RQ Go.Vc.DR Go.Vc.DOp Go.Vc.Knows Go.Vc.At
set_option maxHeartbeats 400000
open Go Go.Vc Go.Sha
theorem Val.sliceNo {P : Program} {n : Nat} {w0 : World} {S0 : List Nat} {E : Env} {L : Hp} {o : Oper} {T : List (Nat × TI)} {t : Nat} {ti : TI} (hT : TabOk P T) {x y : Operand} {a : Option Addr} {m c el t2 : Nat} (ho : o.op = .binOp .eql t x y t2) (ht : tiGet T t = some ti) (hd : ti.desc = .slice el) (hx : lk E x = some (.slice a m c)) (hy : lk E y = some (.slice none 0 0)) :
    Val P n w0 S0 E L o (.bool a.isNone) := by
  intro ac w hs _
  have h2 := (hT _ _ ht).1
  rw [hd] at h2
  have hg : (eqGuard .eql t x y (.slice a m c) (.slice none 0 0)).run P w = .ok () w := by simp [eqGuard]
  simp [execOp, ho, hs.eval hx, hs.eval hy, hg, Lib.run_eql_slice_nil w t el a m c 0 0 h2]
set_option maxRecDepth 10000 in set_option maxHeartbeats 4000000 in
theorem CloneIn_calls (l : List InD) (hl9 : l.length ≤ 4096) (v : Value) (w : World) (hs : SrcW w 298 v l.length (rws InD.c l)) :
    Makes Tryz.prog 34 [v] w 60 298 l.length (rws InD.c l) := by
  refine enter Tryz.func34 rfl (Mem.nil w []) rfl ?_
  obtain ⟨va, vc, rfl, hvc⟩ := hs.shape
  have hsrc := fun L => hs.src (L := L)
  cases va with
  | none =>
    refine x_ ?_
    refine Run.a (Val.sliceNo tabOk rfl rfl rfl rfl rfl) ?_
    refine x_ ?_
    have hz : l.length = 0 := Nat.eq_zero_of_not_pos fun h0 => by obtain ⟨a, c, hv, _⟩ := hs.pos h0; cases hv
    have hnil : l = [] := List.eq_nil_of_length_eq_zero hz
    subst hnil
    exact RQ.ret1 rfl (Res.tmp rfl) fun w' hm => Makes.of (bl := []) Own.nil hm
  | some a =>
    refine x_ ?_
    refine Run.a (Val.sliceNo tabOk rfl rfl rfl rfl rfl) ?_
    refine x_ ?_
    refine Run.nw (New.buildSlice tabOk (parts := []) (cells := #[]) rfl rfl rfl rfl rfl rfl (fillS_nil _ _)) ?_
    intro b5
    refine x_ ?_
    have hown : Own 60 298 (.slice (some ⟨b5, 0, none⟩) 0 0) 0 [] [(b5, .cells #[] 60 (0, 0))] := Own.row b5 0 0 [] [] rfl rfl (Nat.le_refl _) (by unfold maxLen; decide)
    refine Run.op1 (OpTo.append tabOk hown (hsrc _) rfl rfl rfl rfl rfl rfl rfl rfl rfl (List.Perm.refl _) (rws_one' fun a _ => a.one) (by unfold maxLen; omega) (by simp only [ti60]; omega)) ?_
    rintro ⟨⟨v9, bl9⟩, hown9⟩
    dsimp only at hown9 ⊢
    rw [Nat.zero_add, List.nil_append] at hown9
    refine x_ ?_
    exact RQ.ret1 rfl (Res.tmp rfl) fun w' hm => Makes.of hown9 hm
/-- The first k without their signatures. -/
def bareK (l : List InD) (k : Nat) : List InD := (l.take k).map InD.bare ++ l.drop k
theorem bareK_len (l : List InD) (k : Nat) : (bareK l k).length = l.length := by
  unfold bareK
  rw [List.length_append, List.length_map, ← List.length_append, List.take_append_drop]
theorem bareK_at {l : List InD} {k : Nat} {x : InD} (hx : l[k]? = some x) : (bareK l k)[k]? = some x := by
  have hk := (List.getElem?_eq_some_iff.1 hx).1
  unfold bareK
  rw [List.getElem?_append_right (by rw [List.length_map, List.length_take]; omega), List.length_map, List.length_take, Nat.min_eq_left (by omega), List.getElem?_drop, Nat.sub_self, Nat.add_zero, hx]
theorem bareK_set {l : List InD} {k : Nat} {x : InD} (hx : l[k]? = some x) : (bareK l k).set k x.bare = bareK l (k + 1) := by
  have hk := (List.getElem?_eq_some_iff.1 hx).1
  have hx' := (List.getElem?_eq_some_iff.1 hx).2
  unfold bareK
  have hl : ((l.take k).map InD.bare).length = k := by rw [List.length_map, List.length_take]; omega
  rw [List.set_append_right _ _ (by omega), hl, Nat.sub_self, List.drop_eq_getElem_cons hk, hx', List.set_cons_zero, List.take_add_one, hx, List.map_append, List.append_assoc]
  rfl
theorem bareK_all (l : List InD) : bareK l l.length = l.map InD.bare := by
  unfold bareK
  rw [List.take_length, List.drop_length, List.append_nil]
def TxV.toI (v : TxV) (b c : Nat) : TxV := { v with aI := some ⟨b, 0, none⟩, cI := c }
theorem txC_bare (t : TxD) (v : TxV) : txC t.bare v = txC t v := by
  unfold txC
  show (_ :: _ :: Value.slice v.aI (t.is.map InD.bare).length v.cI :: _) = _
  rw [List.length_map]
  rfl
theorem sig_zero : ti53.zero.cells = SigD.nul.c.toArray := by kernel_rfl
/-- Whether it has a message for that place. -/
def MsgP (t : TxD) (i : Int) : Prop := t.kd = 2 ∧ (0 ≤ i ∧ i < t.is.length) ∧ TxMay t
noncomputable instance (t : TxD) (i : Int) : Decidable (MsgP t i) := Classical.propDecidable _
/-- What is signed. -/
noncomputable def msgH (t : TxD) (i : Int) : List Nat := if MsgP t i then digest 105 [t.bare.b, [i.toNat]] else List.replicate 8 0
theorem msgH_len (t : TxD) (i : Int) : (msgH t i).length = 8 := by
  unfold msgH
  split
  · exact digest_len _ _
  · rfl
set_option maxRecDepth 10000 in set_option maxHeartbeats 4000000 in
theorem TMessage_calls (t : TxD) (v : TxV) (hln : TxLn t) (i : Int) (w : World) (ht : TxAt w t v) (hK : Laid w) : Gives Tryz.prog 11 [.agg (txC t v).toArray, .int .i64 i] (.tuple #[.agg (u8s (msgH t i)).toArray, .bool (decide (MsgP t i))]) w := by
  refine enter Tryz.func11 rfl (Mem.nil w []) rfl ?_
  have c0 : Knows Tryz.prog w 21 [.agg (txC t v).toArray] (.bool (decide (TxMay t))) := Knows.mk Tryz.func21 (fun w' hf => TMay_calls t v hln w' (ht.fr hf))
  obtain ⟨rk, _, ri, _, _, _, _, _, _, _, _, _, _⟩ := tx_rd t v
  have hFs : (txC t v).toArray.size = 170 := by rw [List.size_toArray, txC_len]
  generalize hF : txC t v = F at rk ri c0 hFs ⊢
  have hno : ¬ MsgP t i → ∀ w', Fr [] w w' → (Ending.returned (.tuple #[.agg (u8s (List.replicate 8 0)).toArray, .bool false]) = Ending.returned (.tuple #[.agg (u8s (msgH t i)).toArray, .bool (decide (MsgP t i))])) ∧ Fr [] w w' := fun h w' hf => ⟨by rw [show msgH t i = List.replicate 8 0 from if_neg h, decide_eq_false h], hf⟩
  have l1 := hln.1
  refine z_ ?_
  refine Run.nw nbx ?_
  intro b2
  refine z_ ?_
  refine Run.nw nal ?_
  intro b4
  by_cases h1 : t.kd ≠ 2
  · refine x_ ?_
    refine Run.op1 (osa (arr := (u8s (List.replicate 8 0)).toArray) (u8s (List.replicate 8 0)).toArray (u8s_one _)) (fun _ => ?_)
    refine x_ ?_
    exact RQ.ret2 rfl (Res.cellAll tabOk rfl rfl rfl m0 rfl) (Res.tmp rfl) fun w' hm' => hno (fun h => h1 h.1) w' hm'.fr
  have h1 := Decidable.not_not.1 h1
  by_cases h2 : i < 0
  · refine x_ ?_
    refine Run.op1 (osa (arr := (u8s (List.replicate 8 0)).toArray) (u8s (List.replicate 8 0)).toArray (u8s_one _)) (fun _ => ?_)
    refine x_ ?_
    exact RQ.ret2 rfl (Res.cellAll tabOk rfl rfl rfl m0 rfl) (Res.tmp rfl) fun w' hm' => hno (fun h => by have := h.2.1; omega) w' hm'.fr
  by_cases h3 : (t.is.length : Int) ≤ i
  · refine x_ ?_
    refine Run.op1 (osa (arr := (u8s (List.replicate 8 0)).toArray) (u8s (List.replicate 8 0)).toArray (u8s_one _)) (fun _ => ?_)
    refine x_ ?_
    exact RQ.ret2 rfl (Res.cellAll tabOk rfl rfl rfl m0 rfl) (Res.tmp rfl) fun w' hm' => hno (fun h => by have := h.2.1; omega) w' hm'.fr
  by_cases hm : TxMay t
  rotate_left
  · rw [decide_eq_false hm] at c0
    refine x_ ?_
    refine Run.op1 (osa (arr := (u8s (List.replicate 8 0)).toArray) (u8s (List.replicate 8 0)).toArray (u8s_one _)) (fun _ => ?_)
    refine x_ ?_
    exact RQ.ret2 rfl (Res.cellAll tabOk rfl rfl rfl m0 rfl) (Res.tmp rfl) fun w' hm' => hno (fun h => hm h.2.2) w' hm'.fr
  rw [decide_eq_true hm] at c0
  have hP : MsgP t i := ⟨h1, by omega, hm⟩
  have hd : msgH t i = digest 105 [t.bare.b, [i.toNat]] := if_pos hP
  rw [hd, decide_eq_true hP]
  have hM := ((TxMay.iff t).1 hm).m2 h1
  have h8 : t.is.length ≤ 8 := hM.1.2.2.2
  have h1l : 1 ≤ t.is.length := hM.1.2.2.1
  clear hno
  obtain ⟨n, rfl⟩ := Int.eq_ofNat_of_zero_le (show 0 ≤ i by omega)
  rw [Int.toNat_natCast]
  refine x_ ?_
  refine Run.op1 (OpTo.callMk Tryz.func34 rfl rfl rfl rfl rfl rfl (fun w' hm' => CloneIn_calls t.is l1 _ w' (ht.i.fr hm'.fr))) ?_
  rintro ⟨⟨v29, l29⟩, h29⟩
  dsimp only at h29 ⊢
  obtain ⟨b, cap, rest, rfl, rfl, hcap, hrl⟩ : ∃ b cap rest, v29 = .slice (some ⟨b, 0, none⟩) t.is.length cap ∧ l29 = [(b, .cells (rws InD.c t.is ++ rest).toArray 60 (0, 0))] ∧ t.is.length ≤ cap ∧ (rws InD.c t.is ++ rest).length = cap * 298 := by
    generalize hcs : rws InD.c t.is = cs at h29
    generalize hn : t.is.length = n at h29
    cases h29 with
    | nil => omega
    | row b n cap cs rest g1 g2 g3 g4 => exact ⟨b, cap, rest, rfl, rfl, g3, g2⟩
  obtain ⟨v', hv'⟩ : ∃ v', v' = v.toI b cap := ⟨_, rfl⟩
  obtain ⟨G, hG⟩ : ∃ G, G = txC t v' := ⟨_, rfl⟩
  have hGs : G.toArray.size = 170 := by rw [hG, List.size_toArray, txC_len]
  have gi : rdAt ti24 G.toArray 2 = some (.slice (some ⟨b, 0, none⟩) t.is.length cap) := by rw [hG, (tx_rd t v').i, hv']; rfl
  refine x_ ?_
  refine Run.op1 (os1 (arr := F.toArray) (e := 41) G.toArray (L' := [(b, .cells (rws InD.c t.is ++ rest).toArray 60 (0, 0)), (b4, Obj.cells ti31.zero.cells 31 (0, 0))]) (hL := (perm_of fun f => by (simp only [List.map_append, List.map_cons, List.map_nil, List.sum_append, List.sum_cons, List.sum_nil] <;> omega))) (he := by rw [hG, hv', ← hF]; rfl) (hf := by rw [hFs]; decide)) (fun _ => ?_)
  refine x_ ?_
  refine RC.up t.is.length (D := Unit) (fun _ _ => True) (fun k _ => [(34, .int .i64 k), (33, .int .i64 t.is.length), (4, .pointer (some ⟨b4, 0, none⟩)), (2, .pointer (some ⟨b2, 0, none⟩)), (1, .int .i64 (n : Nat))]) (fun k _ => [(b2, Obj.cells G.toArray 41 (0, 0)), (b, .cells (rws InD.c (bareK t.is k) ++ rest).toArray 60 (0, 0)), (b4, Obj.cells ti31.zero.cells 31 (0, 0))]) 0 () (Nat.zero_le _) trivial ⟨rfl, rfl, rfl, rfl, rfl, trivial⟩ (by rw [show bareK t.is 0 = t.is from by unfold bareK; simp]; exact List.Sublist.refl _) ?_
  intro k _ hk _
  refine y_ ?_
  (repeat refine RC.seq ?_); refine RC.wh rfl (fun h => RQ.next ?_) (fun h => ?_)
  · have hk' : k < t.is.length := by have := of_decide_eq_true h; omega
    clear h
    obtain ⟨x, hx⟩ : ∃ p, t.is[k]? = some p := ⟨_, List.getElem?_eq_getElem hk'⟩
    have hbx := bareK_at hx
    have hbs := bareK_set hx
    have hbl := bareK_len t.is k
    refine y_ ?_
    refine Run.a (vbz) ?_
    refine Run.a (vix k hk' ⟨b, k * 298, none⟩) ?_
    refine y_ ?_
    refine Run.op1 (ostE (rws InD.c (bareK t.is (k + 1)) ++ rest).toArray (he := by rw [← hbs]; exact (congrArg (fun a => wrAt _ _ (Array.toList a)) sig_zero).trans (wr_part InD.len x.bare hbx (A := x.pt ++ u8s x.key.1) (old := x.s.c) (new := SigD.nul.c) (B := []) (by rw [x.c_pt, List.append_nil, List.append_assoc]) (by rw [x.bare.c_pt, List.append_nil, List.append_assoc]; rfl) (by rw [SigD.len, SigD.len]) 17 (by rw [List.length_append, x.pt_len, u8s_len, x.key.2.1]))) (hf := by rw [List.size_toArray, List.length_append, rws_len InD.len, hbl]; show k * 298 + 17 + 281 ≤ _; omega) (h1 := by intro u hu; change u ∈ ti53.zero.cells.toList at hu; rw [sig_zero] at hu; exact SigD.nul.one u hu)) (fun _ => ?_)
    refine y_ ?_
    exact RQ.upP (k + 1) () (Nat.lt_succ_self _) hk' trivial ⟨rfl, rfl, rfl, rfl, rfl, trivial⟩ (List.Perm.swap _ _ _) (List.Sublist.refl _)
  · have hk' : k = t.is.length := by have := of_decide_eq_false h; omega
    clear h
    subst hk'
    rw [bareK_all]
    (repeat refine RQ.thenExit ?_); refine RQ.blockHere ?_
    refine x_ ?_
    refine Run.nw (nbsk (parts := [(0, .tmp 46)]) #[.int .u8 (n : Nat)]) ?_
    intro b47
    refine x_ ?_
    refine Run.nw (nbsk (parts := [(0, .tmp 47)]) #[.slice (some ⟨b47, 0, none⟩) 1 1]) ?_
    intro b48
    refine x_ ?_
    have hfin : ∀ w', Mem w [] [(b48, Obj.cells #[.slice (some ⟨b47, 0, none⟩) 1 1] 22 (0, 0)), (b47, Obj.cells #[.int .u8 (n : Nat)] 5 (0, 0)), (b2, Obj.cells G.toArray 41 (0, 0)), (b, .cells (rws InD.c (t.is.map InD.bare) ++ rest).toArray 60 (0, 0)), (b4, Obj.cells ti31.zero.cells 31 (0, 0))] w' → Gives Tryz.prog 35 [.int .u8 105, .agg G.toArray, .slice (some ⟨b48, 0, none⟩) 1 1] (.tuple #[.agg (u8s (digest 105 [t.bare.b, [n]])).toArray, .bool true]) w' := fun w' hm' => by
      have hv := Tdigest_calls 105 (by decide) t.bare v' ⟨by show (t.is.map InD.bare).length ≤ 4096; rw [List.length_map]; exact l1, hln.2⟩ (.slice (some ⟨b48, 0, none⟩) 1 1) [.slice (some ⟨b47, 0, none⟩) 1 1] [[n]] w' ?_ (SrcW.row hm' m0 rfl (Nat.le_refl 1)) (Parts.cons (SrcW.row (cs := u8s [n]) hm' m1 rfl (Nat.le_refl 1)) Parts.nil) (by show 1 ≤ 4; decide) (by show 5 ≤ 1000; decide) (fun l hl => by rw [List.mem_singleton] at hl; subst hl; intro x hx; rw [List.mem_singleton] at hx; subst hx; omega) (hK.fr hm'.fr (by simp))
      · rw [txC_bare, ← hG, decide_eq_true (may_bare hm), show dgH 105 t.bare [[n]] = digest 105 [t.bare.b, [n]] from if_pos (may_bare hm)] at hv
        exact hv
      · have h0 := ht.fr hm'.fr
        rw [hv']
        refine ⟨?_, h0.o, h0.f, h0.k, h0.a, h0.s⟩
        show SrcW w' 298 (.slice (some ⟨b, 0, none⟩) (t.is.map InD.bare).length cap) (t.is.map InD.bare).length (rws InD.c (t.is.map InD.bare))
        rw [List.length_map]
        have hr := rws_len InD.len (t.is.map InD.bare)
        rw [List.length_map] at hr
        exact .at _ _ _ _ hr hcap (fun j u hj => by
          rw [add_lit, cell_of_row w' b (0 + j) _ _ _ (hm'.has (b, _) (by repeat (first | exact List.mem_cons_self | apply List.mem_cons_of_mem | apply List.mem_append_right))), Nat.zero_add, List.getElem?_toArray, List.getElem?_append_left (List.getElem?_eq_some_iff.1 hj).1]
          exact hj)
    refine Run.op1 (OpTo.cv Tryz.func35 (fun w' hm' => hfin w' hm')) (fun _ => ?_)
    refine x_ ?_
    refine Run.op1 (osa (arr := ti31.zero.cells) (e := 31) (u8s (digest 105 [t.bare.b, [n]])).toArray (u8s_one _) (hL := (perm_of fun f => by (simp only [List.map_append, List.map_cons, List.map_nil, List.sum_append, List.sum_cons, List.sum_nil] <;> omega))) (L' := [(b48, Obj.cells #[.slice (some ⟨b47, 0, none⟩) 1 1] 22 (0, 0)), (b47, Obj.cells #[.int .u8 (n : Nat)] 5 (0, 0)), (b2, Obj.cells G.toArray 41 (0, 0)), (b, .cells (rws InD.c (t.is.map InD.bare) ++ rest).toArray 60 (0, 0))]) (hs := by rw [List.size_toArray, u8s_len, digest_len]; rfl)) (fun _ => ?_)
    refine x_ ?_
    exact RQ.ret2 rfl (Res.cellAll tabOk rfl rfl rfl m0 (by rw [List.size_toArray, u8s_len, digest_len]; rfl)) (Res.tmp rfl) fun w' hm' => ⟨rfl, hm'.fr⟩
end Go.Proofs.YtmajfapnbchecaaGreatDoor
