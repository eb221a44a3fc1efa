/- Lemmas. -/
import Derived.Test.YtfoeakgnkfcbjaaGreatDoorPq30
set_option linter.unusedSimpArgs false
set_option linter.unusedVariables false
section
/- block: Same of both. -/
namespace Go.Proofs.YtfoeakgnkfcbjaaGreatDoor
attribute [local irreducible] Go.Vc.Run Go.Vc.RC Go.Vc.RQ Go.Vc.DR Go.Vc.DOp Go.Vc.Knows Go.Vc.At
set_option maxHeartbeats 400000
set_option maxRecDepth 10000
open Go Go.Vc Go.Sha
/-- Both may be, and their bytes are the same. -/
def SameK (a b : BkV) : Prop := MayB a ∧ MayB b ∧ bkB a = bkB b
noncomputable instance (a b : BkV) : Decidable (SameK a b) := Classical.propDecidable _
theorem bt_bk {b : BkV} (h : MayB b) : ∀ x ∈ bkB b, x < 256 := by
  intro x hx
  unfold bkB at hx
  rcases List.mem_append.1 hx with hx | hx
  · exact b.pv.2.2 x hx
  rcases List.mem_append.1 hx with hx | hx
  · exact bits_lt _ x hx
  rcases List.mem_append.1 hx with hx | hx
  · exact le_lt _ _ x hx
  · unfold txsB at hx
    obtain ⟨l, hl, hx⟩ := List.mem_flatten.1 hx
    obtain ⟨q, hq, rfl⟩ := List.mem_map.1 hl
    unfold txB at hx
    rcases List.mem_append.1 hx with hx | hx
    · exact le_lt _ _ x hx
    · exact bt_tx (may_all h q hq) x hx
set_option maxRecDepth 10000 in set_option maxHeartbeats 4000000 in
theorem SameBk_calls (s t : BkV) (hls : BkLn s) (hln : BkLn t) (a : Option Addr) (c : Nat) (a' : Option Addr) (c' : Nat) (w : World) (hs : BkAt w s a c) (ht : BkAt w t a' c') : Gives Tryz.prog 15 [.agg (bkC s a c).toArray, .agg (bkC t a' c').toArray] (.bool (decide (SameK s t))) w := by
  refine enter Tryz.func15 rfl (Mem.nil w []) rfl ?_
  have hFs : (bkC s a c).toArray.size = 10 := by rw [List.size_toArray, bkC_len]
  have hGs : (bkC t a' c').toArray.size = 10 := by rw [List.size_toArray, bkC_len]
  have hE : ∀ w', Fr [] w w' → Turns Tryz.prog 38 [.agg (bkC s a c).toArray] w' [] (Y := WrY s) (fun y => .tuple #[y.1.1, .bool (decide (MayB s))]) (fun y => y.1.2) := fun w' hf => written_calls s hls a c w' (hs.fr hf)
  have hE2 : ∀ w', Fr [] w w' → Turns Tryz.prog 38 [.agg (bkC t a' c').toArray] w' [] (Y := WrY t) (fun y => .tuple #[y.1.1, .bool (decide (MayB t))]) (fun y => y.1.2) := fun w' hf => written_calls t hln a' c' w' (ht.fr hf)
  generalize bkC s a c = F at hFs hE ⊢
  generalize bkC t a' c' = G at hGs hE2 ⊢
  refine z_ ?_
  refine Run.nw nbx ?_
  intro b2
  refine z_ ?_
  refine Run.nw nbx ?_
  intro b3
  refine x_ ?_
  have hz0 : ([(b3, Obj.cells G.toArray 27 (0, 0)), (b2, Obj.cells F.toArray 27 (0, 0))] : Hp).Perm ([] ++ [(b3, Obj.cells G.toArray 27 (0, 0)), (b2, Obj.cells F.toArray 27 (0, 0))]) := List.Perm.refl _
  refine Run.op1 (OpTo.callT Tryz.func38 hz0 (fun w' hm => hE w' hm.fr)) ?_
  rintro ⟨⟨v1, l1⟩, h1⟩
  dsimp only at h1 ⊢
  refine x_ ?_
  have hz1 : (l1 ++ [(b3, Obj.cells G.toArray 27 (0, 0)), (b2, Obj.cells F.toArray 27 (0, 0))] : Hp).Perm ([] ++ (l1 ++ [(b3, Obj.cells G.toArray 27 (0, 0)), (b2, Obj.cells F.toArray 27 (0, 0))])) := List.Perm.refl _
  refine Run.op1 (OpTo.callT Tryz.func38 hz1 (fun w' hm => hE2 w' hm.fr)) ?_
  rintro ⟨⟨v2, l2⟩, h2⟩
  dsimp only at h2 ⊢
  by_cases ha : MayB s
  rotate_left
  · rw [decide_eq_false ha, decide_eq_false (fun h : SameK s t => ha h.1)]
    refine x_ ?_
    exact RQ.ret1 rfl (Res.tmp rfl) fun w' hm => ⟨rfl, hm.fr⟩
  rw [decide_eq_true ha]
  rw [show wrB s = bkB s from if_pos ha] at h1
  by_cases hb : MayB t
  rotate_left
  · rw [decide_eq_false hb, decide_eq_false (fun h : SameK s t => hb h.2.1)]
    refine x_ ?_
    exact RQ.ret1 rfl (Res.tmp rfl) fun w' hm => ⟨rfl, hm.fr⟩
  rw [decide_eq_true hb]
  rw [show wrB t = bkB t from if_pos hb] at h2
  have e : decide (SameK s t) = decide (bkB s = bkB t) := decide_eq_decide.2 ⟨fun h => h.2.2, fun h => ⟨ha, hb, h⟩⟩
  rw [e]
  refine x_ ?_
  refine Run.op1 (OpTo.cv Tryz.func39 (fun w' hm => Equal_calls (bkB s) (bkB t) (bt_bk ha) (bt_bk hb) _ _ w' (h1.srcW (fun q hq => hm.has q (List.mem_append_right _ (List.mem_append_left _ hq)))) (h2.srcW (fun q hq => hm.has q (List.mem_append_left _ hq))))) (fun _ => ?_)
  refine x_ ?_
  exact RQ.ret1 rfl (Res.tmp rfl) fun w' hm => ⟨rfl, hm.fr⟩
end Go.Proofs.YtfoeakgnkfcbjaaGreatDoor
end
section
/- block: bytes that are told how many they are, read. -/
namespace Go.Proofs.YtfoeakgnkfcbjaaGreatDoor
attribute [local irreducible] Go.Vc.Run Go.Vc.RC Go.Vc.RQ Go.Vc.DR Go.Vc.DOp Go.Vc.Knows Go.Vc.At
set_option maxHeartbeats 400000
set_option maxRecDepth 10000
open Go Go.Vc Go.Sha
def pByt : Ps (List Nat) := fun l => if 4 ≤ l.length ∧ num8 (l.take 4) ≤ (l.drop 4).length then some ((l.drop 4).take (num8 (l.take 4)), (l.drop 4).drop (num8 (l.take 4))) else none
def bytE (x : List Nat) : List Nat := le x.length 4 ++ x
def bytR (x : List Nat) : Prop := x.length < 4294967296 ∧ Bt x
theorem good_Byt : Good pByt bytE bytR where
  a := fun x r h hr => by
    have h4 : (le x.length 4).length = 4 := le_len _ _
    have e1 : (bytE x ++ r).take 4 = le x.length 4 := by unfold bytE; rw [List.append_assoc, List.take_append_of_le_length (by rw [h4]; exact Nat.le_refl 4), List.take_of_length_le (by rw [h4]; exact Nat.le_refl 4)]
    have e2 : (bytE x ++ r).drop 4 = x ++ r := by
      unfold bytE
      rw [List.append_assoc]
      have := List.drop_left (l₁ := le x.length 4) (l₂ := x ++ r)
      rwa [h4] at this
    have e3 : num8 (le x.length 4) = x.length := num8_leT 4 _ h.1
    unfold pByt
    rw [e1, e2, e3, if_pos ⟨by unfold bytE; rw [List.length_append, List.length_append, h4]; omega, by rw [List.length_append]; omega⟩, List.take_left, List.drop_left]
  b := fun l x r hl h => by
    unfold pByt at h
    split at h
    · rename_i hc
      simp only [Option.some.injEq, Prod.mk.injEq] at h
      obtain ⟨rfl, rfl⟩ := h
      have h1 := le_num8 (l.take 4) (hl.take 4)
      have h2 := num8_lt (l.take 4) (hl.take 4)
      rw [List.length_take, Nat.min_eq_left hc.1] at h1 h2
      have h3 : ((l.drop 4).take (num8 (l.take 4))).length = num8 (l.take 4) := by rw [List.length_take]; omega
      refine ⟨?_, ?_⟩
      · unfold bytE
        rw [h3, h1, List.append_assoc, List.take_append_drop, List.take_append_drop]
      · refine ⟨by rw [h3]; exact h2, fun y hy => hl y (List.mem_of_mem_drop (List.mem_of_mem_take hy))⟩
    · cases h
theorem RBytes_over2 (rb n k m : Nat) (ad : Addr) (hrb : ad.block ≠ rb) (hn : n ≤ 1000000) (hk : k + 4 ≤ n) (hov : n < k + 4 + m) (l4 : List Nat) (h4 : l4.length = 4) (hb4 : ∀ x ∈ l4, x < 256) (hm : num8 l4 = m) (w : World) (hs : w.heap[rb]? = some (.cells #[.slice (some ad) n n, .int .i64 k] 134 (0, 0)))
    (hr4 : ∀ j u, (u8s l4)[j]? = some u → w.cell? (ad.add (k + j)) = some u) :
    Calls Tryz.prog 46 #[.pointer (some ⟨rb, 0, none⟩)] w fun e w' => e = .panicked shortP ∧ Fr [rb] w w' ∧ w'.heap[rb]? = some (.cells #[.slice (some ad) n n, .int .i64 k] 134 (0, 0)) := by
  have hL : Has [(rb, Obj.cells #[Value.slice (some ad) n n, .int .i64 k] 134 (0, 0))] w := fun p hp => by rw [List.mem_singleton] at hp; subst hp; exact hs
  refine enter (vs := [.pointer (some ⟨rb, 0, none⟩)]) Tryz.func46 rfl (Mem.init (S0 := [rb]) hL (fun p hp => by rw [List.mem_singleton] at hp; subst hp; exact List.mem_singleton.2 rfl) (by simp)) rfl ?_
  have hz : ([(rb, Obj.cells #[Value.slice (some ad) n n, .int .i64 k] 134 (0, 0))] : Hp).Perm ([(rb, Obj.cells #[Value.slice (some ad) n n, .int .i64 k] 134 (0, 0))] ++ []) := List.Perm.refl _
  have hS : ∀ j, (ad.add j).block ∉ [rb] := by
    intro j h
    have h' := List.mem_singleton.1 h
    exact hrb ((show (ad.add j).block = ad.block by first | rfl | (unfold Addr.add; split <;> rfl)).symm.trans h')
  refine z_ ?_
  refine Run.op1 (OpTo.callT Tryz.func44 hz (fun w' hm' => RNum_ok rb n k 4 ad hrb hn (by decide) (by omega) l4 h4 hb4 w' (hm'.has _ m0) (fun j u hj => hm'.fr.cell (hS _) (hr4 j u hj)))) ?_
  intro _
  rw [hm]
  refine z_ ?_
  refine Run.op1 (OpTo.cv Tryz.func76 (fun w' hm' => RLeft_calls rb n n (k + 4) (some ad) hn (by omega) w' (hm'.has _ m0))) (fun _ => ?_)
  refine z_ ?_
  refine Run.op1 (os1 #[Value.slice (some ad) n n, .int .i64 k]) (fun _ => ?_)
  refine z_ ?_
  refine Run.a (vbs #[]) ?_
  refine Run.a (Val.mkI tabOk rfl rfl rfl rfl) ?_
  refine Run.panic (v := .agg #[]) (pt := 126) ?_
  repeat first | refine RQ.thenPanic ?_ | refine RQ.blockPanic ?_
  exact RQ.panic fun w' hm => ⟨rfl, hm.fr, hm.has _ m0⟩
theorem rdByt (rb : Nat) (a : Option Addr) (l r : List Nat) (hr : r <:+ l) : RdsC 46 [.pointer (some ⟨rb, 0, none⟩)] rb a l r [] (pByt r) (fun x => {p : Value × Hp // Own 5 1 p.1 x.length (u8s x) p.2}) (fun _ y => y.1.1) (fun _ y => y.1.2) := by
  intro w hI hw hnd
  have hrl := hr.length_le
  have hlen := hI.len
  have hs := hw (rb, RdS a l r) List.mem_cons_self
  by_cases h4 : 4 ≤ r.length
  rotate_left
  · refine (RBytes_none rb l.length l.length (l.length - r.length) a (by omega) (by omega) (by omega) w hs).mono ?_
    rintro e w' ⟨rfl, hfr⟩
    rw [show pByt r = none from if_neg fun h => h4 h.1]
    exact ⟨l.length - r.length, by omega, rfl, hfr.any _, (hfr.block rb (Array.getElem?_eq_some_iff.1 hs).1 (by simp)).trans hs⟩
  obtain ⟨ad, c, hv, hc, hcl, hrd⟩ := hI.src.pos (by omega)
  cases hv
  have hne : ad.block ≠ rb := fun e => hI.away (by omega) ad rfl (by rw [e]; exact List.mem_cons_self)
  have hpre : r = l.drop (l.length - r.length) := by
    obtain ⟨p, rfl⟩ := hr
    rw [List.length_append, Nat.add_sub_cancel, List.drop_left]
  have hbr : ∀ x ∈ r, x < 256 := fun x hx => hI.bt x (hr.mem hx)
  have hat : ∀ j u, (u8s r)[j]? = some u → w.cell? (ad.add (l.length - r.length + j)) = some u := fun j u hj => hrd _ u (by rw [hpre, u8s_drop, List.getElem?_drop] at hj; exact hj)
  have hr4 : ∀ j u, (u8s (r.take 4))[j]? = some u → w.cell? (ad.add (l.length - r.length + j)) = some u := fun j u hj => by
    rw [u8s_take, List.getElem?_take] at hj
    split at hj
    · exact hat j u hj
    · cases hj
  obtain ⟨m, hm⟩ : ∃ m, m = num8 (r.take 4) := ⟨_, rfl⟩
  by_cases hov : m ≤ (r.drop 4).length
  · have hdl : (r.drop 4).length = r.length - 4 := List.length_drop
    have hx : ((r.drop 4).take m).length = m := by rw [List.length_take]; omega
    refine (RBytes_ok rb l.length (l.length - r.length) m ad hne (by omega) (by omega) (r.take 4) ((r.drop 4).take m) (by rw [List.length_take]; omega) (fun x hx => hbr x (List.mem_of_mem_take hx)) hm.symm hx w hs hr4 (fun j u hj => ?_)).mono ?_
    · rw [u8s_take, List.getElem?_take] at hj
      split at hj
      · rw [u8s_drop, List.getElem?_drop] at hj
        rw [Nat.add_assoc]
        exact hat (4 + j) u hj
      · cases hj
    · rintro e w' ⟨⟨⟨v, bl⟩, hown⟩, rfl, hfr, hbl, hnew, hn⟩
      rw [show pByt r = some ((r.drop 4).take m, (r.drop 4).drop m) from by unfold pByt; rw [← hm]; exact if_pos ⟨h4, hov⟩]
      have e2 : l.length - r.length + 4 + m = l.length - ((r.drop 4).drop m).length := by rw [List.length_drop, List.length_drop]; omega
      dsimp only at hown hbl hnew hn
      rw [e2] at hbl hnew hn
      exact ⟨⟨(v, bl), by dsimp only; rw [hx]; exact hown⟩, rfl, hfr, hbl, hnew, hn⟩
  · have hdl : (r.drop 4).length = r.length - 4 := List.length_drop
    refine (RBytes_over2 rb l.length (l.length - r.length) m ad hne (by omega) (by omega) (by omega) (r.take 4) (by rw [List.length_take]; omega) (fun x hx => hbr x (List.mem_of_mem_take hx)) hm.symm w hs hr4).mono ?_
    rintro e w' ⟨rfl, hfr, hh⟩
    rw [show pByt r = none from if_neg fun h => hov (by rw [hm]; exact h.2)]
    exact ⟨l.length - r.length, by omega, rfl, hfr, hh⟩
end Go.Proofs.YtfoeakgnkfcbjaaGreatDoor
end
section
/- block: Decode's closure. -/
namespace Go.Proofs.YtfoeakgnkfcbjaaGreatDoor
attribute [local irreducible] Go.Vc.Run Go.Vc.RC Go.Vc.RQ Go.Vc.DR Go.Vc.DOp Go.Vc.Knows Go.Vc.At
set_option maxHeartbeats 400000
set_option maxRecDepth 10000
open Go Go.Vc Go.Sha
def pBk : Ps (By 8 × By 8 × List (List Nat)) := pAnd (pB 8) (pAnd (pB 8) (pRow pByt))
def bkE (x : By 8 × By 8 × List (List Nat)) : List Nat := x.1.1 ++ (x.2.1.1 ++ rowB bytE x.2.2)
noncomputable def badL (rows : List (List Nat)) : Bool := rows.any fun x => decide (decE x ≠ 0)
theorem decT_ln {x : List Nat} (hb : Bt x) : TxLn (decT x) := by
  unfold decT
  rcases hp : pTx x with _ | ⟨t, r⟩
  · exact ⟨Nat.zero_le _, Nat.zero_le _, Nat.zero_le _, Nat.zero_le _, Nat.zero_le _, Nat.zero_le _⟩
  · dsimp only
    split
    · exact ⟨Nat.zero_le _, Nat.zero_le _, Nat.zero_le _, Nat.zero_le _, Nat.zero_le _, Nat.zero_le _⟩
    · exact ((good_tx.b x t r hb hp).2).ln
/-- What is read: the block, with what it hangs on. -/
structure DkR (l : List Nat) where
  p : By 8
  q : By 8
  rows : List (List Nat)
  r : List Nat
  h : pBk l = some ((p, q, rows), r)
  b : BkV
  hp : b.pv = p
  hq : b.wk = num8 q.1
  ht : b.ts.map (·.1) = rows.map decT
  hbt : ∀ x ∈ rows, Bt x
  a : Option Addr
  c : Nat
  L5 : Hp
  pool : Hp
  own : Own 64 170 (.slice a b.ts.length c) b.ts.length (rws txR b.ts) L5
  hat : ∀ w, Has pool w → ∀ z ∈ b.ts, TxAt w z.1 z.2
/-- Short at a place, or read. -/
inductive DkO (l : List Nat) where
  | short (k : Nat) (hk : k ≤ l.length) (h : pBk l = none)
  | read (d : DkR l)
def DkO.o {l : List Nat} : DkO l → Option (TypeId × Value)
  | .short _ _ _ => some (126, .agg #[])
  | .read _ => none
def DkO.k {l : List Nat} : DkO l → Nat
  | .short k _ _ => k
  | .read d => l.length - d.r.length
noncomputable def DkO.L {l : List Nat} (b4 b5 : Nat) : DkO l → Hp
  | .short _ _ _ => []
  | .read d => (b4, Obj.cells (bkC d.b d.a d.c).toArray 27 (0, 0)) :: ((b5, Obj.cells #[.bool (badL d.rows)] 4 (0, 0)) :: (d.L5 ++ d.pool))
def BkV.nul : BkV := ⟨By.z 8, 0, by decide, []⟩
theorem bk_w0 (b : BkV) (p : By 8) (a : Option Addr) (c : Nat) : wrAt (bkC b a c).toArray 0 (u8s p.1) = (bkC { b with pv := p } a c).toArray := wr_at' (pre := []) (old := u8s b.pv.1) (new := u8s p.1) (post := [.float .f64 b.wk, .slice a b.ts.length c]) rfl rfl (by rw [u8s_len, u8s_len, b.pv.2.1, p.2.1]) rfl
theorem bk_w8 (b : BkV) (k : Nat) (hk : k < 18446744073709551616) (a : Option Addr) (c : Nat) : wrAt (bkC b a c).toArray 8 [.float .f64 k] = (bkC { b with wk := k, hw := hk } a c).toArray := wr_at' (pre := u8s b.pv.1) (old := [.float .f64 b.wk]) (new := [.float .f64 k]) (post := [.slice a b.ts.length c]) rfl rfl rfl (by rw [u8s_len, b.pv.2.1])
theorem bk_w9 (b : BkV) (ts : List TxP) (a a' : Option Addr) (c c' : Nat) : wrAt (bkC b a c).toArray 9 [.slice a' ts.length c'] = (bkC { b with ts := ts } a' c').toArray := wr_at' (pre := u8s b.pv.1 ++ [.float .f64 b.wk]) (old := [.slice a b.ts.length c]) (new := [.slice a' ts.length c']) (post := []) (by unfold bkC; rw [List.append_assoc]; rfl) (by unfold bkC; rw [List.append_assoc]; rfl) rfl (by rw [List.length_append, u8s_len, b.pv.2.1]; rfl)
theorem bk_zero : ti27.zero.cells = (bkC BkV.nul none 0).toArray := by kernel_rfl
theorem one_bB (z : Bool) : ∀ u ∈ (Value.bool z).cells.toList, u.oneCell' = true := by
  intro u hu
  simp only [Value.cells, List.mem_cons, List.not_mem_nil, or_false] at hu
  subst hu; rfl
theorem one_f (k : Nat) : ∀ u ∈ (Value.float .f64 k).cells.toList, u.oneCell' = true := by
  intro u hu
  simp only [Value.cells, List.mem_cons, List.not_mem_nil, or_false] at hu
  subst hu; rfl
set_option maxRecDepth 10000 in set_option maxHeartbeats 4000000 in
theorem dk1_calls (l : List Nat) (a : Option Addr) (rb b4 b5 : Nat) (w : World) (hI : InB w ([(rb, RdS a l l), (b4, Obj.cells (bkC BkV.nul none 0).toArray 27 (0, 0)), (b5, Obj.cells #[.bool false] 4 (0, 0))].map (·.1)) a l) (hw : Has [(rb, RdS a l l), (b4, Obj.cells (bkC BkV.nul none 0).toArray 27 (0, 0)), (b5, Obj.cells #[.bool false] 4 (0, 0))] w) (hnd : ([(rb, RdS a l l), (b4, Obj.cells (bkC BkV.nul none 0).toArray 27 (0, 0)), (b5, Obj.cells #[.bool false] 4 (0, 0))].map (·.1)).Nodup) :
    TurnsO Tryz.prog 41 [.pointer (some ⟨rb, 0, none⟩), .pointer (some ⟨b4, 0, none⟩), .pointer (some ⟨b5, 0, none⟩)] w [(rb, RdS a l l), (b4, Obj.cells (bkC BkV.nul none 0).toArray 27 (0, 0)), (b5, Obj.cells #[.bool false] 4 (0, 0))] (Y := DkO l) DkO.o (fun y => (rb, RdC a l.length y.k) :: y.L b4 b5) := by
  refine enter Tryz.func41 rfl (Mem.init (S0 := [(rb, RdS a l l), (b4, Obj.cells (bkC BkV.nul none 0).toArray 27 (0, 0)), (b5, Obj.cells #[.bool false] 4 (0, 0))].map (·.1)) hw (fun p hp => List.mem_map_of_mem hp) hnd) rfl ?_
  have hbl := hI.bt
  have hfail : ∀ (E : Env) (k : Nat) (Lr : Hp), k ≤ l.length → pBk l = none → RQ Tryz.f41.ntmps w ([(rb, RdS a l l), (b4, Obj.cells (bkC BkV.nul none 0).toArray 27 (0, 0)), (b5, Obj.cells #[.bool false] 4 (0, 0))].map (·.1)) (.panic shortP) (bodyPost Tryz.prog Tryz.f41 fun e w' => ∃ y : DkO l, e = endO y.o ∧ Fr ([(rb, RdS a l l), (b4, Obj.cells (bkC BkV.nul none 0).toArray 27 (0, 0)), (b5, Obj.cells #[.bool false] 4 (0, 0))].map (·.1)) w w' ∧ Has ((rb, RdC a l.length y.k) :: y.L b4 b5) w' ∧ (∀ p ∈ (rb, RdC a l.length y.k) :: y.L b4 b5, w.heap.size ≤ p.1 ∨ p.1 ∈ [(rb, RdS a l l), (b4, Obj.cells (bkC BkV.nul none 0).toArray 27 (0, 0)), (b5, Obj.cells #[.bool false] 4 (0, 0))].map (·.1)) ∧ (((rb, RdC a l.length y.k) :: y.L b4 b5).map (·.1)).Nodup) E ((rb, RdC a l.length k) :: Lr) := fun E k Lr hk hn =>
    RQ.panic fun w' hm => TurnsO.of (Y := DkO l) (o := DkO.o) (L' := fun y => (rb, RdC a l.length y.k) :: y.L b4 b5) (.short k hk hn) rfl hm (Lr := Lr) (List.Perm.refl _)
  have hp1 : ([(rb, RdS a l l), (b4, Obj.cells (bkC BkV.nul none 0).toArray 27 (0, 0)), (b5, Obj.cells #[.bool false] 4 (0, 0))] : Hp).Perm (((rb, RdS a l l) :: []) ++ [(b4, Obj.cells (bkC BkV.nul none 0).toArray 27 (0, 0)), (b5, Obj.cells #[.bool false] 4 (0, 0))]) := List.Perm.refl _
  refine x_ ?_
  rcases h1 : pB 8 l with _ | ⟨x1, r1⟩
  · refine Run.op1 (callRn Tryz.func42 (rdHash rb a l l (List.suffix_refl l)) hI hp1 h1 (fun k hk => ?_)) (fun y => y.elim)
    repeat first | refine RQ.thenPanic ?_ | refine RQ.blockPanic ?_
    exact hfail _ _ _ hk (by simp [pBk, pAnd, h1])
  have hr1 := (good_B 8).sfx hbl (List.suffix_refl l) h1
  refine Run.op1 (callRs Tryz.func42 (rdHash rb a l l (List.suffix_refl l)) hI hp1 h1) (fun _ => ?_)
  dsimp only [List.append_nil, List.cons_append, List.nil_append]
  have hx8 : (u8s x1.1).toArray.size = 8 := by rw [List.size_toArray, u8s_len, x1.2.1]
  have hsz := fun b a c => (show (bkC b a c).toArray.size = 10 by rw [List.size_toArray, bkC_len])
  refine x_ ?_
  refine Run.op1 (ostE (arr := (bkC BkV.nul none 0).toArray) (e := 27) (L' := [(rb, RdS a l r1), (b5, Obj.cells #[.bool false] 4 (0, 0))]) (bkC { BkV.nul with pv := x1 } none 0).toArray (hL := (perm_of fun f => by (simp only [List.map_append, List.map_cons, List.map_nil, List.sum_append, List.sum_cons, List.sum_nil] <;> omega))) (hs := by exact hx8) (he := by exact bk_w0 BkV.nul x1 none 0) (hf := by rw [hsz]; decide) (h1 := by exact u8s_one _)) (fun _ => ?_)
  refine x_ ?_
  have hp2 : ([(b4, Obj.cells (bkC { BkV.nul with pv := x1 } none 0).toArray 27 (0, 0)), (rb, RdS a l r1), (b5, Obj.cells #[.bool false] 4 (0, 0))] : Hp).Perm (((rb, RdS a l r1) :: []) ++ [(b4, Obj.cells (bkC { BkV.nul with pv := x1 } none 0).toArray 27 (0, 0)), (b5, Obj.cells #[.bool false] 4 (0, 0))]) := (perm_of fun f => by (simp only [List.map_append, List.map_cons, List.map_nil, List.sum_append, List.sum_cons, List.sum_nil] <;> omega))
  rcases h2 : pB 8 r1 with _ | ⟨x2, r2⟩
  · refine Run.op1 (callRn Tryz.func42 (rdHash rb a l r1 hr1) hI hp2 h2 (fun k hk => ?_)) (fun y => y.elim)
    repeat first | refine RQ.thenPanic ?_ | refine RQ.blockPanic ?_
    exact hfail _ _ _ hk (by simp [pBk, pAnd, h1, h2])
  have hr2 := (good_B 8).sfx hbl hr1 h2
  refine Run.op1 (callRs Tryz.func42 (rdHash rb a l r1 hr1) hI hp2 h2) (fun _ => ?_)
  dsimp only [List.append_nil, List.cons_append, List.nil_append]
  have hwk : num8 x2.1 < 18446744073709551616 := by have := num8_lt x2.1 x2.2.2; rw [x2.2.1] at this; exact this
  refine x_ ?_
  refine Run.op1 (OpTo.cv Tryz.func43 (fun w' _ => FOf_calls x2.1 x2.2.1 x2.2.2 w')) (fun _ => ?_)
  refine x_ ?_
  refine Run.op1 (ostE (arr := (bkC { BkV.nul with pv := x1 } none 0).toArray) (e := 27) (L' := [(rb, RdS a l r2), (b5, Obj.cells #[.bool false] 4 (0, 0))]) (bkC ⟨x1, num8 x2.1, hwk, []⟩ none 0).toArray (hL := (perm_of fun f => by (simp only [List.map_append, List.map_cons, List.map_nil, List.sum_append, List.sum_cons, List.sum_nil] <;> omega))) (he := by exact bk_w8 { BkV.nul with pv := x1 } (num8 x2.1) hwk none 0) (hf := by rw [hsz]; decide) (h1 := by exact one_f _)) (fun _ => ?_)
  refine x_ ?_
  have hp3 : ([(b4, Obj.cells (bkC ⟨x1, num8 x2.1, hwk, []⟩ none 0).toArray 27 (0, 0)), (rb, RdS a l r2), (b5, Obj.cells #[.bool false] 4 (0, 0))] : Hp).Perm (((rb, RdS a l r2) :: []) ++ [(b4, Obj.cells (bkC ⟨x1, num8 x2.1, hwk, []⟩ none 0).toArray 27 (0, 0)), (b5, Obj.cells #[.bool false] 4 (0, 0))]) := (perm_of fun f => by (simp only [List.map_append, List.map_cons, List.map_nil, List.sum_append, List.sum_cons, List.sum_nil] <;> omega))
  rcases h3 : pN 1 r2 with _ | ⟨x3, r3⟩
  · refine Run.op1 (callRn Tryz.func44 (rdNum 1 (by decide) rb a l r2 hr2) hI hp3 h3 (fun k hk => ?_)) (fun y => y.elim)
    repeat first | refine RQ.thenPanic ?_ | refine RQ.blockPanic ?_
    exact hfail _ _ _ hk (by simp [pBk, pAnd, pRow, h1, h2, h3])
  have hr3 := (good_N 1).sfx hbl hr2 h3
  refine Run.op1 (callRs Tryz.func44 (rdNum 1 (by decide) rb a l r2 hr2) hI hp3 h3) (fun _ => ?_)
  dsimp only [List.append_nil, List.cons_append, List.nil_append]
  obtain ⟨n, rfl, hn⟩ := pN_nat h3 (fun x hx => hbl x (hr2.mem hx))
  have hrow : pRow pByt r2 = pRep pByt n r3 := by simp [pRow, h3]
  have hbkN : pRep pByt n r3 = none → pBk l = none := fun h => by simp [pBk, pAnd, h1, h2, hrow, h]
  have hbkS : ∀ rows r, pRep pByt n r3 = some (rows, r) → pBk l = some ((x1, x2, rows), r) := fun rows r h => by simp [pBk, pAnd, h1, h2, hrow, h]
  refine x_ ?_
  refine RC.up n (D := (List (List Nat) × List Nat) × (List TxP × (Option Addr × Nat)) × (Hp × Hp)) (fun k d => (pRep pByt k r3 = some (d.1.1, d.1.2) ∧ d.1.2 <:+ l ∧ d.1.1.length = k) ∧ (d.2.1.1.map (·.1) = d.1.1.map decT ∧ ∀ x ∈ d.1.1, Bt x) ∧ Own 64 170 (.slice d.2.1.2.1 d.2.1.1.length d.2.1.2.2) d.2.1.1.length (rws txR d.2.1.1) d.2.2.1 ∧ ∀ w, Has d.2.2.2 w → ∀ z ∈ d.2.1.1, TxAt w z.1 z.2) (fun k d => [(15, .int .i64 k), (14, .int .i64 n), (2, .pointer (some ⟨b5, 0, none⟩)), (1, .pointer (some ⟨b4, 0, none⟩)), (0, .pointer (some ⟨rb, 0, none⟩))]) (fun _ d => (rb, RdS a l d.1.2) :: ((b4, Obj.cells (bkC ⟨x1, num8 x2.1, hwk, d.2.1.1⟩ d.2.1.2.1 d.2.1.2.2).toArray 27 (0, 0)) :: ((b5, Obj.cells #[.bool (badL d.1.1)] 4 (0, 0)) :: (d.2.2.1 ++ d.2.2.2)))) 0 (([], r3), ([], (none, 0)), ([], [])) (Nat.zero_le _) ⟨⟨rfl, hr3, rfl⟩, ⟨rfl, fun x hx => by cases hx⟩, Own.nil, fun _ _ z hz => by cases hz⟩ ⟨rfl, rfl, rfl, rfl, rfl, trivial⟩ (List.Sublist.refl _) ?_
  rintro k ⟨⟨rows, rk⟩, ⟨ts, ⟨sa, sc⟩⟩, ⟨L5, pool⟩⟩ hk ⟨⟨hrep, hrk, hxl⟩, ⟨htm, hbt⟩, hown, hat⟩
  dsimp only at hrep hrk hxl htm hbt hown hat ⊢
  have htl : ts.length = k := by rw [← hxl]; have := congrArg List.length htm; simpa using this
  by_cases hk' : k < n
  · refine x_ ?_
    have hp4 : ((rb, RdS a l rk) :: ((b4, Obj.cells (bkC ⟨x1, num8 x2.1, hwk, ts⟩ sa sc).toArray 27 (0, 0)) :: ((b5, Obj.cells #[.bool (badL rows)] 4 (0, 0)) :: (L5 ++ pool))) : Hp).Perm (((rb, RdS a l rk) :: []) ++ ((b4, Obj.cells (bkC ⟨x1, num8 x2.1, hwk, ts⟩ sa sc).toArray 27 (0, 0)) :: ((b5, Obj.cells #[.bool (badL rows)] 4 (0, 0)) :: (L5 ++ pool)))) := List.Perm.refl _
    rcases h4 : pByt rk with _ | ⟨x4, r4⟩
    · refine Run.op1 (callRn Tryz.func46 (rdByt rb a l rk hrk) hI hp4 h4 (fun k' hk'' => ?_)) (fun y => y.elim)
      repeat first | refine RQ.thenPanic ?_ | refine RQ.blockPanic ?_
      exact hfail _ _ _ hk'' (hbkN (pRep_none hrep h4 n hk'))
    have hr4 := good_Byt.sfx hbl hrk h4
    have hst := pRep_step hrep h4
    refine Run.op1 (callRs Tryz.func46 (rdByt rb a l rk hrk) hI hp4 h4) ?_
    rintro ⟨⟨v19, l19⟩, h19⟩
    dsimp only [List.append_nil, List.cons_append, List.nil_append] at h19 ⊢
    refine x_ ?_
    have hx4b : Bt x4 := ((good_Byt.b rk x4 r4 (fun z hz => hbl z (hrk.mem hz)) h4).2).2
    have hx4l : x4.length ≤ 131072 := by
      have e := (good_Byt.b rk x4 r4 (fun z hz => hbl z (hrk.mem hz)) h4).1
      have := congrArg List.length e
      rw [List.length_append] at this
      unfold bytE at this
      rw [List.length_append] at this
      have := hrk.length_le
      have := hI.len
      omega
    have hz5 : ((rb, RdS a l r4) :: (l19 ++ ((b4, Obj.cells (bkC ⟨x1, num8 x2.1, hwk, ts⟩ sa sc).toArray 27 (0, 0)) :: ((b5, Obj.cells #[.bool (badL rows)] 4 (0, 0)) :: (L5 ++ pool)))) : Hp).Perm ([] ++ ((rb, RdS a l r4) :: (l19 ++ ((b4, Obj.cells (bkC ⟨x1, num8 x2.1, hwk, ts⟩ sa sc).toArray 27 (0, 0)) :: ((b5, Obj.cells #[.bool (badL rows)] 4 (0, 0)) :: (L5 ++ pool)))))) := List.Perm.refl _
    refine Run.op1 (OpTo.callT Tryz.func45 hz5 (fun w' hm => TDecode_calls x4 hx4l hx4b v19 w' (h19.srcW (fun p hp => hm.has p (List.mem_cons_of_mem _ (List.mem_append_left _ hp)))))) ?_
    rintro ⟨⟨tv, lp⟩, hta⟩
    dsimp only at hta ⊢
    have hT170 : (txC (decT x4) tv).toArray.size = 170 := by rw [List.size_toArray, txC_len]
    have hT1 := txC_one (decT x4) tv
    obtain ⟨T, hT⟩ : ∃ T, T = txC (decT x4) tv := ⟨_, rfl⟩
    rw [← hT] at hT170 hT1 ⊢
    obtain ⟨ee, hee⟩ : ∃ ee, ee = decE x4 := ⟨_, rfl⟩
    rw [← hee]
    refine x_ ?_
    refine Run.nw nal ?_
    intro bt
    refine x_ ?_
    refine Run.op1 (osa (arr := ti64.zero.cells) (e := 64) (L' := lp ++ ((rb, RdS a l r4) :: (l19 ++ ((b4, Obj.cells (bkC ⟨x1, num8 x2.1, hwk, ts⟩ sa sc).toArray 27 (0, 0)) :: ((b5, Obj.cells #[.bool (badL rows)] 4 (0, 0)) :: (L5 ++ pool)))))) T.toArray hT1 (hL := (perm_of fun f => by (simp only [List.map_append, List.map_cons, List.map_nil, List.sum_append, List.sum_cons, List.sum_nil] <;> omega))) (hs := by exact hT170)) (fun _ => ?_)
    refine Run.a (Val.of rfl) ?_
    refine Run.nil (RQ.next ?_)
    refine RC.seq ?_
    have hbd : badL (rows ++ [x4]) = (badL rows || decide (ee ≠ 0)) := by unfold badL; rw [List.any_append, List.any_cons, List.any_nil, Bool.or_false, hee]
    refine RC.thenCut (Y := Unit) (fun _ => [(15, .int .i64 k), (14, .int .i64 n), (4, .pointer (some ⟨bt, 0, none⟩)), (2, .pointer (some ⟨b5, 0, none⟩)), (1, .pointer (some ⟨b4, 0, none⟩)), (0, .pointer (some ⟨rb, 0, none⟩))]) (fun _ => (b5, Obj.cells #[.bool (badL (rows ++ [x4]))] 4 (0, 0)) :: ((bt, Obj.cells T.toArray 64 (0, 0)) :: (lp ++ ((rb, RdS a l r4) :: (l19 ++ ((b4, Obj.cells (bkC ⟨x1, num8 x2.1, hwk, ts⟩ sa sc).toArray 27 (0, 0)) :: (L5 ++ pool))))))) ?_ (fun _ => ?_)
    · have rb5 : ∀ z : Bool, rdAt ti4 #[Value.bool z] 0 = some (.bool z) := fun z => rfl
      have hrb5 := rb5 (badL rows)
      cases hb5 : badL rows
      · rw [hb5] at hrb5
        rw [hb5, Bool.false_or] at hbd
        rw [hbd]
        refine x_ ?_
        refine Run.op1 (ostE (arr := #[.bool false]) (e := 4) (L' := ((bt, Obj.cells T.toArray 64 (0, 0)) :: (lp ++ ((rb, RdS a l r4) :: (l19 ++ ((b4, Obj.cells (bkC ⟨x1, num8 x2.1, hwk, ts⟩ sa sc).toArray 27 (0, 0)) :: (L5 ++ pool))))))) #[.bool (bne ee 0)] (hL := (perm_of fun f => by (simp only [List.map_append, List.map_cons, List.map_nil, List.sum_append, List.sum_cons, List.sum_nil] <;> omega))) (he := by rfl) (hf := by decide) (h1 := by exact one_bB _)) (fun _ => ?_)
        refine x_ ?_
        exact RQ.toP () ⟨rfl, rfl, rfl, rfl, rfl, rfl, trivial⟩ (by rw [show (ee != 0) = decide (ee ≠ 0) from by by_cases h : ee = 0 <;> simp [h]]) (List.Sublist.refl _)
      · rw [hb5] at hrb5
        rw [hb5, Bool.true_or] at hbd
        rw [hbd]
        refine x_ ?_
        refine Run.op1 (ostE (arr := #[.bool true]) (e := 4) (L' := ((bt, Obj.cells T.toArray 64 (0, 0)) :: (lp ++ ((rb, RdS a l r4) :: (l19 ++ ((b4, Obj.cells (bkC ⟨x1, num8 x2.1, hwk, ts⟩ sa sc).toArray 27 (0, 0)) :: (L5 ++ pool))))))) #[.bool true] (hL := (perm_of fun f => by (simp only [List.map_append, List.map_cons, List.map_nil, List.sum_append, List.sum_cons, List.sum_nil] <;> omega))) (he := by rfl) (hf := by decide) (h1 := by exact one_bB _)) (fun _ => ?_)
        refine x_ ?_
        exact RQ.toP () ⟨rfl, rfl, rfl, rfl, rfl, rfl, trivial⟩ (List.Perm.refl _) (List.Sublist.refl _)
    have r9 := bk_r9 ⟨x1, num8 x2.1, hwk, ts⟩ sa sc
    dsimp only at r9
    refine x_ ?_
    refine Run.nw (nbsl (parts := [(0, .tmp 30)]) T.toArray (fillS_1 170 _ T (by rw [← List.size_toArray]; exact hT170))) ?_
    intro b31
    refine Run.op1 (OpTo.append (L1 := (b31, Obj.cells T.toArray 64 (0, 0)) :: ((b5, Obj.cells #[.bool (badL (rows ++ [x4]))] 4 (0, 0)) :: ((bt, Obj.cells T.toArray 64 (0, 0)) :: (lp ++ ((rb, RdS a l r4) :: (l19 ++ ((b4, Obj.cells (bkC ⟨x1, num8 x2.1, hwk, ts⟩ sa sc).toArray 27 (0, 0)) :: pool))))))) tabOk hown (Src.at ⟨b31, 0, none⟩ 1 1 T (by rw [← List.size_toArray]; exact hT170) (Rd.rowAll m0)) rfl rfl rfl rfl rfl rfl rfl rfl rfl (perm_of fun f => by (simp only [List.map_append, List.map_cons, List.map_nil, List.sum_append, List.sum_cons, List.sum_nil] <;> omega)) hT1 (by unfold maxLen; omega) (by simp only [ti64]; omega)) ?_
    rintro ⟨⟨v32, l32⟩, h32⟩
    have h32 : Own 64 170 v32 (ts.length + 1) (rws txR ts ++ T) l32 := h32
    dsimp only
    obtain ⟨sa2, sc2, rfl, hsc2⟩ := h32.shape
    obtain ⟨ts2, hts2⟩ : ∃ ts2 : List TxP, ts2 = ts ++ [(decT x4, tv)] := ⟨_, rfl⟩
    have hlen2 : ts.length + 1 = ts2.length := by rw [hts2, List.length_append]; rfl
    have hrw2 : rws txR ts ++ T = rws txR ts2 := by rw [hts2, rws_app, rws_one, hT]; rfl
    rw [hlen2, hrw2] at h32
    rw [hlen2]
    refine x_ ?_
    refine Run.op1 (ostE (arr := (bkC ⟨x1, num8 x2.1, hwk, ts⟩ sa sc).toArray) (e := 27) (L' := l32 ++ ((b31, Obj.cells T.toArray 64 (0, 0)) :: ((b5, Obj.cells #[.bool (badL (rows ++ [x4]))] 4 (0, 0)) :: ((bt, Obj.cells T.toArray 64 (0, 0)) :: (lp ++ ((rb, RdS a l r4) :: (l19 ++ pool))))))) (bkC ⟨x1, num8 x2.1, hwk, ts2⟩ sa2 sc2).toArray (hL := (perm_of fun f => by (simp only [List.map_append, List.map_cons, List.map_nil, List.sum_append, List.sum_cons, List.sum_nil] <;> omega))) (he := by exact bk_w9 ⟨x1, num8 x2.1, hwk, ts⟩ ts2 sa sa2 sc sc2) (hf := by rw [hsz]; decide) (h1 := by exact one_s _ _ _)) (fun _ => ?_)
    refine x_ ?_
    exact RQ.upP (k + 1) ((rows ++ [x4], r4), (ts2, (sa2, sc2)), (l32, lp ++ pool)) (Nat.lt_succ_self _) hk' ⟨⟨hst, hr4, by rw [List.length_append, hxl]; rfl⟩, ⟨by dsimp only; rw [hts2, List.map_append, List.map_append, htm]; rfl, fun x hx => by
      rcases List.mem_append.1 hx with h | h
      · exact hbt x h
      · rw [List.mem_singleton.1 h]; exact hx4b⟩, h32, fun w hw z hz => by
      dsimp only at hz
      rw [hts2] at hz
      rcases List.mem_append.1 hz with h | h
      · exact hat w hw.right z h
      · rw [List.mem_singleton.1 h]; exact hta w hw.left⟩ ⟨rfl, rfl, rfl, rfl, rfl, trivial⟩ (L1 := ((rb, RdS a l r4) :: ((b4, Obj.cells (bkC ⟨x1, num8 x2.1, hwk, ts2⟩ sa2 sc2).toArray 27 (0, 0)) :: ((b5, Obj.cells #[.bool (badL (rows ++ [x4]))] 4 (0, 0)) :: (l32 ++ (lp ++ pool))))) ++ ((b31, Obj.cells T.toArray 64 (0, 0)) :: ((bt, Obj.cells T.toArray 64 (0, 0)) :: l19))) (perm_of fun f => by (simp only [List.map_append, List.map_cons, List.map_nil, List.sum_append, List.sum_cons, List.sum_nil] <;> omega)) (List.sublist_append_left _ _)
  · obtain rfl : k = n := by omega
    refine x_ ?_
    exact RQ.end0 rfl fun w' hm => TurnsO.of (Y := DkO l) (o := DkO.o) (L' := fun y => (rb, RdC a l.length y.k) :: y.L b4 b5) (.read ⟨x1, x2, rows, rk, hbkS rows rk hrep, ⟨x1, num8 x2.1, hwk, ts⟩, rfl, rfl, htm, hbt, sa, sc, L5, pool, hown, hat⟩) rfl hm (Lr := []) (by rw [List.append_nil]; exact List.Perm.refl _)
end Go.Proofs.YtfoeakgnkfcbjaaGreatDoor
end
