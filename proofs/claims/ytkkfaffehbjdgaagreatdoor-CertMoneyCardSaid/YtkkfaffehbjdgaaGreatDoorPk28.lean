/- Lemmas. -/
import Derived.Tactics
import Derived.Tactics2
import Derived.Defers
import Derived.Recover
import Derived.Laws.Pointers
import Derived.Test.YtkkfaffehbjdgaaGreatDoorPk27
set_option linter.unusedSimpArgs false
set_option linter.unusedVariables false
section
/- tx: digest, ID, the reference's TxID, Same, SameTx. -/
namespace Go.Proofs.YtkkfaffehbjdgaaGreatDoor
attribute [local irreducible] Go.Vc.Run Go.Vc.RC Go.Vc.RQ Go.Vc.DR Go.Vc.DOp Go.Vc.Knows Go.Vc.At
set_option maxHeartbeats 400000
open Go Go.Vc Go.Sha
/-- The digest of a transaction, with parts behind it. -/
noncomputable def dgH (p : Nat) (t : TxD) (ls : List (List Nat)) : List Nat := if TxMay t then digest p (t.b :: ls) else List.replicate 8 0
theorem dgH_len (p : Nat) (t : TxD) (ls : List (List Nat)) : (dgH p t ls).length = 8 := by
  unfold dgH
  split
  · exact digest_len _ _
  · rfl
theorem Parts.one {w : World} {vs : List Value} {ls : List (List Nat)} (h : Parts w vs ls) : ∀ u ∈ vs, u.oneCell' = true := by
  intro u hu
  obtain ⟨i, hi, rfl⟩ := List.mem_iff_getElem.1 hu
  exact (h.2 i hi (by rw [← h.1]; exact hi)).one
theorem Parts.cons {w : World} {u : Value} {l : List Nat} {vs : List Value} {ls : List (List Nat)} (hu : SrcW w 1 u l.length (u8s l)) (h : Parts w vs ls) : Parts w (u :: vs) (l :: ls) := by
  refine ⟨by rw [List.length_cons, List.length_cons, h.1], fun i h1 h2 => ?_⟩
  cases i with
  | zero => exact hu
  | succ i => exact h.2 i (by simpa using h1) (by simpa using h2)
theorem Parts.nil {w : World} : Parts w [] [] := ⟨rfl, fun i h _ => absurd h (by simp)⟩
theorem bt_tx {t : TxD} (h : TxMay t) : ∀ x ∈ t.b, x < 256 := TxD.bt h.rg
set_option maxRecDepth 10000 in set_option maxHeartbeats 4000000 in
theorem Tdigest_calls (p : Nat) (hp : p < 256) (t : TxD) (v : TxV) (hln : TxLn t) (pv : Value) (vs : List Value) (ls : List (List Nat)) (w : World) (ht : TxAt w t v) (hs : SrcW w 1 pv ls.length vs) (hps : Parts w vs ls) (hll : ls.length ≤ 4) (htl : tot ls ≤ 1000) (hlb : ∀ l ∈ ls, ∀ x ∈ l, x < 256) (hK : Laid w) :
    Gives Tryz.prog 50 [.int .u8 p, .agg (txC t v).toArray, pv] (.tuple #[.agg (u8s (dgH p t ls)).toArray, .bool (decide (TxMay t))]) w := by
  refine enter Tryz.func50 rfl (Mem.nil w []) rfl ?_
  obtain ⟨pa, pc, rfl, hpc⟩ := hs.shape
  have hFs : (txC t v).toArray.size = 170 := by rw [List.size_toArray, txC_len]
  have hE : ∀ w', Fr [] w w' → Turns Tryz.prog 81 [.agg (txC t v).toArray] w' [] (Y := EncY t) (fun y => .tuple #[y.1.1, .int .i64 (encE t)]) (fun y => y.1.2) := fun w' hf => TEncode_calls t v hln w' (ht.fr hf)
  generalize txC t v = F at hFs hE ⊢
  refine z_ ?_
  refine Run.nw nbx ?_
  intro b4
  refine z_ ?_
  refine Run.nw nal ?_
  intro b6
  refine x_ ?_
  have hz0 : ([(b6, Obj.cells (u8s (List.replicate 8 0)).toArray 32 (0, 0)), (b4, Obj.cells F.toArray 92 (0, 0))] : Hp).Perm ([] ++ [(b6, Obj.cells (u8s (List.replicate 8 0)).toArray 32 (0, 0)), (b4, Obj.cells F.toArray 92 (0, 0))]) := List.Perm.refl _
  refine Run.op1 (OpTo.callT Tryz.func81 hz0 (fun w' hm => hE w' hm.fr)) ?_
  rintro ⟨⟨v12, l12⟩, h12⟩
  dsimp only at h12 ⊢
  by_cases hm : TxMay t
  rotate_left
  · rw [show encE t = 1 from if_neg hm, show dgH p t ls = List.replicate 8 0 from if_neg hm, decide_eq_false hm]
    refine x_ ?_
    refine Run.op1 (osa (arr := (u8s (List.replicate 8 0)).toArray) (e := 32) (L' := l12 ++ [(b4, Obj.cells F.toArray 92 (0, 0))]) (u8s (List.replicate 8 0)).toArray (u8s_one _) (hL := (perm_of fun f => by (simp only [List.map_append, List.map_cons, List.map_nil, List.sum_append, List.sum_cons, List.sum_nil] <;> omega)))) (fun _ => ?_)
    refine x_ ?_
    exact RQ.ret2 rfl (Res.cellAll tabOk rfl rfl rfl m0 rfl) (Res.tmp rfl) fun w' hm' => ⟨rfl, hm'.fr⟩
  rw [show encE t = 0 from if_pos hm, decide_eq_true hm]
  rw [show encB t = t.b from if_pos hm] at h12
  have hd : dgH p t ls = digest p (t.b :: ls) := if_pos hm
  rw [hd]
  have hd8 : (digest p (t.b :: ls)).length = 8 := digest_len _ _
  have hbl := hm.bl
  obtain ⟨a12, c12, rfl, hc12⟩ := h12.shape
  refine x_ ?_
  refine Run.nw (nbsk (parts := [(0, .tmp 19)]) #[.slice a12 t.b.length c12]) ?_
  intro b20
  refine x_ ?_
  have hown : Own 22 1 (.slice (some ⟨b20, 0, none⟩) 1 1) 1 [.slice a12 t.b.length c12] [(b20, Obj.cells #[.slice a12 t.b.length c12] 22 (0, 0))] := Own.row b20 1 1 [.slice a12 t.b.length c12] [] rfl rfl (Nat.le_refl _) (by unfold maxLen; decide)
  refine Run.op1 (OpTo.append (L1 := l12 ++ [(b6, Obj.cells (u8s (List.replicate 8 0)).toArray 32 (0, 0)), (b4, Obj.cells F.toArray 92 (0, 0))]) tabOk hown hs.src rfl rfl rfl rfl rfl rfl rfl rfl rfl (List.Perm.refl _) hps.one (by unfold maxLen; omega) (by simp only [ti22]; omega)) ?_
  rintro ⟨⟨v22, l22⟩, h22⟩
  dsimp only at h22 ⊢
  have hfinal : ∀ w', Mem w [] (l22 ++ (l12 ++ [(b6, Obj.cells (u8s (List.replicate 8 0)).toArray 32 (0, 0)), (b4, Obj.cells F.toArray 92 (0, 0))])) w' → Gives Tryz.prog 82 [.int .u8 p, v22] (.agg (u8s (digest p (t.b :: ls))).toArray) w' := fun w' hm' => by
    have hsw : SrcW w' 1 v22 (t.b :: ls).length (.slice a12 t.b.length c12 :: vs) := by
      have h := h22.srcW (w := w') (fun q hq => hm'.has q (List.mem_append_left _ hq))
      rw [Nat.add_comm] at h
      exact h
    refine Of_calls p hp v22 (.slice a12 t.b.length c12 :: vs) (t.b :: ls) w' hsw (Parts.cons (h12.srcW (fun q hq => hm'.has q (List.mem_append_right _ (List.mem_append_left _ hq)))) (hps.fr hm'.fr)) ?_ ?_ (hK.fr hm'.fr (by simp))
    · show ((t.b :: ls).map fun l => 4 + l.length).sum ≤ _
      rw [List.map_cons, List.sum_cons]
      have : (ls.map fun l => 4 + l.length).sum ≤ 1000 := htl
      omega
    · intro l hl
      rcases List.mem_cons.1 hl with rfl | hl
      · exact bt_tx hm
      · exact hlb l hl
  refine Run.op1 (OpTo.cv Tryz.func82 (fun w' hm' => hfinal w' hm')) (fun _ => ?_)
  refine x_ ?_
  refine Run.op1 (osa (arr := (u8s (List.replicate 8 0)).toArray) (e := 32) (L' := l22 ++ (l12 ++ [(b4, Obj.cells F.toArray 92 (0, 0))])) (u8s (digest p (t.b :: ls))).toArray (u8s_one _) (hL := (perm_of fun f => by (simp only [List.map_append, List.map_cons, List.map_nil, List.sum_append, List.sum_cons, List.sum_nil] <;> omega))) (hs := by rw [List.size_toArray, u8s_len, hd8]; rfl)) (fun _ => ?_)
  refine x_ ?_
  exact RQ.ret2 rfl (Res.cellAll tabOk rfl rfl rfl m0 (by rw [List.size_toArray, u8s_len, hd8]; rfl)) (Res.tmp rfl) fun w' hm' => ⟨rfl, hm'.fr⟩
/-- Both may be, and their bytes are the same. -/
def SameP (a b : TxD) : Prop := TxMay a ∧ TxMay b ∧ a.b = b.b
noncomputable instance (a b : TxD) : Decidable (SameP a b) := Classical.propDecidable _
end Go.Proofs.YtkkfaffehbjdgaaGreatDoor

/- tx: Message. -/
namespace Go.Vc
open Go Go.Sha
end Go.Vc
namespace Go.Proofs.YtkkfaffehbjdgaaGreatDoor
attribute [local irreducible] Go.Vc.Run Go.Vc.RC Go.Vc.RQ Go.Vc.DR Go.Vc.DOp Go.Vc.Knows Go.Vc.At
set_option maxHeartbeats 400000
open Go Go.Vc Go.Sha
/-- Whether it has a message for that place. -/
def MsgP (t : TxD) (i : Int) : Prop := t.kd = 2 ∧ (0 ≤ i ∧ i < t.is.length) ∧ TxMay t
noncomputable instance (t : TxD) (i : Int) : Decidable (MsgP t i) := Classical.propDecidable _
end Go.Proofs.YtkkfaffehbjdgaaGreatDoor
end
section
set_option maxRecDepth 10000
/- wire: what is deferred. -/
namespace Go.Proofs.YtkkfaffehbjdgaaGreatDoor
open Go Go.Vc Go.Sha
end Go.Proofs.YtkkfaffehbjdgaaGreatDoor

/- wire: guarded. -/
namespace Go.Vc
open Go
end Go.Vc
namespace Go.Proofs.YtkkfaffehbjdgaaGreatDoor
open Go Go.Vc Go.Sha
end Go.Proofs.YtkkfaffehbjdgaaGreatDoor

/- wire: the function that Read guards. -/
namespace Go.Vc
open Go
section
variable {P : Program} {n : Nat} {w0 : World} {S0 : List Nat} {Q : Exit → Act → World → Prop} {E : Env} {L : Hp} {o : Oper} {d : Nat} {T : List (Nat × TI)} {t : Nat} {ti : TI}
end
end Go.Vc
namespace Go.Proofs.YtkkfaffehbjdgaaGreatDoor
attribute [local irreducible] Go.Vc.Run Go.Vc.RC Go.Vc.RQ Go.Vc.DR Go.Vc.DOp
open Go Go.Vc Go.Sha
end Go.Proofs.YtkkfaffehbjdgaaGreatDoor

/- wire: Read. -/
namespace Go.Vc
open Go
end Go.Vc
namespace Go.Proofs.YtkkfaffehbjdgaaGreatDoor
attribute [local irreducible] Go.Vc.Run Go.Vc.RC Go.Vc.RQ Go.Vc.DR Go.Vc.DOp
open Go Go.Vc Go.Sha
end Go.Proofs.YtkkfaffehbjdgaaGreatDoor

/- wire: the reader's Hash, short. -/
namespace Go.Proofs.YtkkfaffehbjdgaaGreatDoor
attribute [local irreducible] Go.Vc.Run Go.Vc.RC Go.Vc.RQ Go.Vc.DR Go.Vc.DOp
open Go Go.Vc Go.Sha
end Go.Proofs.YtkkfaffehbjdgaaGreatDoor
end
section
/- tx: readers: what a reader's call comes to; Num, Hash, row. -/
namespace Go.Proofs.YtkkfaffehbjdgaaGreatDoor
open Go Go.Vc Go.Sha
section
variable {rb : Nat} {a : Option Addr} {l r r' : List Nat} {Ex : Hp} {α : Type} {res : Option (α × List Nat)} {Y : α → Type} {V : (x : α) → Y x → Value} {L' : (x : α) → Y x → Hp}
section
variable {n : Nat} {w0 : World} {S0 : List Nat} {Q : Exit → Act → World → Prop} {E : Env} {L Lr : Hp} {o : Oper} {d : Nat}
end
end
end Go.Proofs.YtkkfaffehbjdgaaGreatDoor

/- tx: the reader: row, and what has no lists (gen_txz.py prints it). -/
namespace Go.Vc
open Go Go.Sha
theorem wr_at' {F F' pre old new post : List Value} {off : Nat} (e : F = pre ++ (old ++ post)) (e' : F' = pre ++ (new ++ post)) (hl : old.length = new.length) (ho : pre.length = off) : wrAt F.toArray off new = F'.toArray := by
  rw [e, e', ← List.append_assoc, ← List.append_assoc]
  exact wr_mid' pre old new post hl off ho.symm
end Go.Vc
namespace Go.Proofs.YtkkfaffehbjdgaaGreatDoor
attribute [local irreducible] Go.Vc.Run Go.Vc.RC Go.Vc.RQ Go.Vc.DR Go.Vc.DOp Go.Vc.Knows Go.Vc.At
set_option maxHeartbeats 400000
set_option maxRecDepth 10000
open Go Go.Vc Go.Sha
end Go.Proofs.YtkkfaffehbjdgaaGreatDoor
end
section
/- cert: records with a certificate; copied, Side, Set. -/
namespace Go.Proofs.YtkkfaffehbjdgaaGreatDoor
attribute [local irreducible] Go.Vc.Run Go.Vc.RC Go.Vc.RQ Go.Vc.DR Go.Vc.DOp Go.Vc.Knows Go.Vc.At
set_option maxHeartbeats 400000
set_option maxRecDepth 10000
open Go Go.Vc Go.Sha
/-- What a record holds, with its certificate. -/
structure Kd where
  r : Rc
  pend : Bool
  c : CeD
def kd39 (d : Kd) (kv : Value) : List Value := sideC d.r.ln d.r.wd d.r.nd kv d.r.made ([.int .i64 d.r.bal, .int .i64 d.r.fwd, .int .i64 0, .int .i64 0, .bool d.r.ce, .int .i64 d.r.at_] ++ (u8s (List.replicate 8 0) ++ (.bool d.pend :: .int .i64 d.c.sd :: .int .i64 d.c.ep :: .int .i64 d.c.ql :: (u8s d.c.en.1 ++ u8s d.c.ro.1))))
def kdC (d : Kd) (kv ov sv uv : Value) : List Value := kd39 d kv ++ [ov, sv, uv]
theorem kd39_len (d : Kd) (kv : Value) : (kd39 d kv).length = 39 := by
  unfold kd39 sideC prm
  simp only [List.length_append, List.length_cons, List.length_nil, u8s_len, List.length_replicate, d.c.en.2.1, d.c.ro.2.1]
theorem kdC_len (d : Kd) (kv ov sv uv : Value) : (kdC d kv ov sv uv).length = 42 := by
  unfold kdC
  rw [List.length_append, kd39_len]
  rfl
theorem kdC_base (x : SX) : x.c = kdC ⟨x.r, false, CeD.nul⟩ x.kv (.slice none 0 0) (.slice none 0 0) x.uv := rfl
theorem kdC_cert (d : Kd) (kv ov sv uv : Value) : kdC d kv ov sv uv = sideC d.r.ln d.r.wd d.r.nd kv d.r.made ([.int .i64 d.r.bal, .int .i64 d.r.fwd, .int .i64 0, .int .i64 0, .bool d.r.ce, .int .i64 d.r.at_] ++ (u8s (List.replicate 8 0) ++ [.bool d.pend])) ++ (ceC d.c ov sv ++ [uv]) := by
  unfold kdC kd39 ceC sideC
  simp only [List.append_assoc, List.cons_append, List.nil_append]
theorem kdC_one (d : Kd) {kv ov sv uv : Value} (h1 : kv.oneCell' = true) (h2 : ov.oneCell' = true) (h3 : sv.oneCell' = true) (h4 : uv.oneCell' = true) : ∀ u ∈ kdC d kv ov sv uv, u.oneCell' = true := by
  intro u hu
  unfold kdC kd39 sideC prm at hu
  simp only [List.mem_append, List.mem_cons, List.not_mem_nil, or_false] at hu
  rcases hu with ((rfl | rfl | rfl | rfl) | rfl | (rfl | rfl | rfl | rfl | rfl | rfl) | hu | rfl | rfl | rfl | rfl | hu | hu) | rfl | rfl | rfl
  all_goals first | rfl | assumption | exact u8s_one _ u hu
theorem kd_r3 (d : Kd) (kv ov sv uv : Value) : rdAt ti41 (kdC d kv ov sv uv).toArray 3 = some kv := rd_one rfl rfl
theorem kd_r39 (d : Kd) (kv ov sv uv : Value) : rdAt ti33 (kdC d kv ov sv uv).toArray 39 = some ov := rd_one rfl (at_mid (pre := kd39 d kv) (post := [sv, uv]) rfl (kd39_len d kv))
theorem kd_r40 (d : Kd) (kv ov sv uv : Value) : rdAt ti34 (kdC d kv ov sv uv).toArray 40 = some sv := rd_one rfl (at_mid (pre := kd39 d kv ++ [ov]) (post := [uv]) (by unfold kdC; rw [List.append_assoc]; rfl) (by rw [List.length_append, kd39_len]; rfl))
theorem kd_r41 (d : Kd) (kv ov sv uv : Value) : rdAt ti28 (kdC d kv ov sv uv).toArray 41 = some uv := rd_one rfl (at_mid (pre := kd39 d kv ++ [ov, sv]) (post := []) (by unfold kdC; rw [List.append_assoc]; rfl) (by rw [List.length_append, kd39_len]; rfl))
theorem kd_w3 (d : Kd) (kv ov sv uv q : Value) : wrAt (kdC d kv ov sv uv).toArray 3 [q] = (kdC d q ov sv uv).toArray := rfl
theorem kd_w39 (d : Kd) (kv ov sv uv q : Value) : wrAt (kdC d kv ov sv uv).toArray 39 [q] = (kdC d kv q sv uv).toArray := wr_at' (pre := kd39 d kv) (old := [ov]) (post := [sv, uv]) rfl rfl rfl (kd39_len d kv)
theorem kd_w40 (d : Kd) (kv ov sv uv q : Value) : wrAt (kdC d kv ov sv uv).toArray 40 [q] = (kdC d kv ov q uv).toArray := wr_at' (pre := kd39 d kv ++ [ov]) (old := [sv]) (post := [uv]) (by unfold kdC; rw [List.append_assoc]; rfl) (by unfold kdC; rw [List.append_assoc]; rfl) rfl (by rw [List.length_append, kd39_len]; rfl)
theorem kd_w41 (d : Kd) (kv ov sv uv q : Value) : wrAt (kdC d kv ov sv uv).toArray 41 [q] = (kdC d kv ov sv q).toArray := wr_at' (pre := kd39 d kv ++ [ov, sv]) (old := [uv]) (post := []) (by unfold kdC; rw [List.append_assoc]; rfl) (by unfold kdC; rw [List.append_assoc]; rfl) rfl (by rw [List.length_append, kd39_len]; rfl)
/-- As it lies: its lists are slices. -/
structure KX where
  d : Kd
  kv : Option Addr × Nat
  ov : Option Addr × Nat
  sv : Option Addr × Nat
  uv : Option Addr × Nat
def KX.c (x : KX) : List Value := kdC x.d (.slice x.kv.1 x.d.r.keys.length x.kv.2) (.slice x.ov.1 x.d.c.os.length x.ov.2) (.slice x.sv.1 x.d.c.sg.length x.sv.2) (.slice x.uv.1 x.d.r.used.length x.uv.2)
theorem KX.len (x : KX) : x.c.length = 42 := kdC_len _ _ _ _ _
theorem KX.one (x : KX) : ∀ u ∈ x.c, u.oneCell' = true := kdC_one _ rfl rfl rfl rfl
/-- Its lists can be read. -/
structure KX.ok (w : World) (x : KX) : Prop where
  k : SrcW w 8 (.slice x.kv.1 x.d.r.keys.length x.kv.2) x.d.r.keys.length (u8s x.d.r.keys.flatten)
  o : SrcW w 9 (.slice x.ov.1 x.d.c.os.length x.ov.2) x.d.c.os.length (rws OutD.c x.d.c.os)
  s : SrcW w 282 (.slice x.sv.1 x.d.c.sg.length x.sv.2) x.d.c.sg.length (rws SgD.c x.d.c.sg)
  u : SrcW w 1 (.slice x.uv.1 x.d.r.used.length x.uv.2) x.d.r.used.length (i64L x.d.r.used)
theorem KX.ok.fr {w w' : World} {x : KX} (h : x.ok w) (hf : Fr [] w w') : x.ok w' := ⟨h.k.fr hf, h.o.fr hf, h.s.fr hf, h.u.fr hf⟩
structure KX.ln (x : KX) : Prop where
  k : x.d.r.keys.length ≤ 4096
  o : x.d.c.os.length ≤ 4096
  s : x.d.c.sg.length ≤ 4096
  u : x.d.r.used.length ≤ 4096
theorem one_s' (a : Option Addr) (n c : Nat) : ∀ u ∈ (Value.slice a n c).cells.toList, u.oneCell' = true := by
  intro u hu
  simp only [Value.cells, List.mem_cons, List.not_mem_nil, or_false] at hu
  subst hu; rfl
set_option maxRecDepth 10000 in set_option maxHeartbeats 4000000 in
theorem CloneOut_calls (l : List OutD) (hl9 : l.length ≤ 4096) (v : Value) (w : World) (hs : SrcW w 9 v l.length (rws OutD.c l)) :
    Makes Tryz.prog 46 [v] w 49 9 l.length (rws OutD.c l) := by
  refine enter Tryz.func46 rfl (Mem.nil w []) rfl ?_
  obtain ⟨va, vc, rfl, hvc⟩ := hs.shape
  have hsrc := fun L => hs.src (L := L)
  cases va with
  | none =>
    refine x_ ?_
    refine Run.a (Val.sliceNil tabOk rfl rfl rfl rfl rfl) ?_
    refine x_ ?_
    have hz : l.length = 0 := Nat.eq_zero_of_not_pos fun h0 => by obtain ⟨a, c, hv, _⟩ := hs.pos h0; cases hv
    have hnil : l = [] := List.eq_nil_of_length_eq_zero hz
    subst hnil
    exact RQ.ret1 rfl (Res.tmp rfl) fun w' hm => Makes.of (bl := []) Own.nil hm
  | some a =>
    refine x_ ?_
    refine Run.a (Val.sliceNil tabOk rfl rfl rfl rfl rfl) ?_
    refine x_ ?_
    refine Run.nw (New.buildSlice tabOk (parts := []) (cells := #[]) rfl rfl rfl rfl rfl rfl (fillS_nil _ _)) ?_
    intro b5
    refine x_ ?_
    have hown : Own 49 9 (.slice (some ⟨b5, 0, none⟩) 0 0) 0 [] [(b5, .cells #[] 49 (0, 0))] := Own.row b5 0 0 [] [] rfl rfl (Nat.le_refl _) (by unfold maxLen; decide)
    refine Run.op1 (OpTo.append tabOk hown (hsrc _) rfl rfl rfl rfl rfl rfl rfl rfl rfl (List.Perm.refl _) (rws_one' fun a _ => a.one) (by unfold maxLen; omega) (by simp only [ti49]; omega)) ?_
    rintro ⟨⟨v9, bl9⟩, hown9⟩
    dsimp only at hown9 ⊢
    rw [Nat.zero_add, List.nil_append] at hown9
    refine x_ ?_
    exact RQ.ret1 rfl (Res.tmp rfl) fun w' hm => Makes.of hown9 hm
set_option maxRecDepth 10000 in set_option maxHeartbeats 4000000 in
theorem CloneSg_calls (l : List SgD) (hl9 : l.length ≤ 4096) (v : Value) (w : World) (hs : SrcW w 282 v l.length (rws SgD.c l)) :
    Makes Tryz.prog 47 [v] w 102 282 l.length (rws SgD.c l) := by
  refine enter Tryz.func47 rfl (Mem.nil w []) rfl ?_
  obtain ⟨va, vc, rfl, hvc⟩ := hs.shape
  have hsrc := fun L => hs.src (L := L)
  cases va with
  | none =>
    refine x_ ?_
    refine Run.a (Val.sliceNil tabOk rfl rfl rfl rfl rfl) ?_
    refine x_ ?_
    have hz : l.length = 0 := Nat.eq_zero_of_not_pos fun h0 => by obtain ⟨a, c, hv, _⟩ := hs.pos h0; cases hv
    have hnil : l = [] := List.eq_nil_of_length_eq_zero hz
    subst hnil
    exact RQ.ret1 rfl (Res.tmp rfl) fun w' hm => Makes.of (bl := []) Own.nil hm
  | some a =>
    refine x_ ?_
    refine Run.a (Val.sliceNil tabOk rfl rfl rfl rfl rfl) ?_
    refine x_ ?_
    refine Run.nw (New.buildSlice tabOk (parts := []) (cells := #[]) rfl rfl rfl rfl rfl rfl (fillS_nil _ _)) ?_
    intro b5
    refine x_ ?_
    have hown : Own 102 282 (.slice (some ⟨b5, 0, none⟩) 0 0) 0 [] [(b5, .cells #[] 102 (0, 0))] := Own.row b5 0 0 [] [] rfl rfl (Nat.le_refl _) (by unfold maxLen; decide)
    refine Run.op1 (OpTo.append tabOk hown (hsrc _) rfl rfl rfl rfl rfl rfl rfl rfl rfl (List.Perm.refl _) (rws_one' fun a _ => a.one) (by unfold maxLen; omega) (by simp only [ti102]; omega)) ?_
    rintro ⟨⟨v9, bl9⟩, hown9⟩
    dsimp only at hown9 ⊢
    rw [Nat.zero_add, List.nil_append] at hown9
    refine x_ ?_
    exact RQ.ret1 rfl (Res.tmp rfl) fun w' hm => Makes.of hown9 hm
set_option maxRecDepth 10000 in set_option maxHeartbeats 4000000 in
theorem copiedK_calls (x : KX) (hl : x.ln) (w : World) (hok : x.ok w) :
    MakesD Tryz.prog 27 [.agg x.c.toArray] w (fun y : KX => .agg y.c.toArray) (fun y => y.d = x.d) (fun w y => y.ok w) := by
  obtain ⟨d, ⟨ka, kc⟩, ⟨oa, oc⟩, ⟨sa, sc⟩, ⟨ua, uc⟩⟩ := x
  obtain ⟨h1, h2, h3, h4⟩ := hok
  obtain ⟨l1, l2, l3, l4⟩ := hl
  dsimp only at h1 h2 h3 h4 l1 l2 l3 l4
  show MakesD _ _ [.agg (kdC d (.slice ka d.r.keys.length kc) (.slice oa d.c.os.length oc) (.slice sa d.c.sg.length sc) (.slice ua d.r.used.length uc)).toArray] w _ _ _
  refine enter Tryz.func27 rfl (Mem.nil w []) rfl ?_
  have hC := fun w' (hf : Fr [] w w') => CloneH_calls d.r.keys.length (by omega) d.r.keys.flatten _ w' (h1.fr hf)
  have hD := fun w' (hf : Fr [] w w') => CloneI_calls d.r.used.length (by omega) d.r.used _ w' (h4.fr hf)
  have hO := fun w' (hf : Fr [] w w') => CloneOut_calls d.c.os l2 _ w' (h2.fr hf)
  have hS := fun w' (hf : Fr [] w w') => CloneSg_calls d.c.sg l3 _ w' (h3.fr hf)
  have hsz := fun kv ov sv uv => (show (kdC d kv ov sv uv).toArray.size = 42 by rw [List.size_toArray, kdC_len])
  refine z_ ?_
  refine Run.nw nbx ?_
  intro b1
  refine z_ ?_
  refine Run.nw nal ?_
  intro b2
  have q3 := kd_r3 d (.slice ka d.r.keys.length kc) (.slice oa d.c.os.length oc) (.slice sa d.c.sg.length sc) (.slice ua d.r.used.length uc)
  refine x_ ?_
  refine Run.op1 (OpTo.callMk Tryz.func45 rfl rfl rfl rfl rfl rfl (fun w' hm => hC w' hm.fr)) ?_
  rintro ⟨⟨kv2, kb⟩, hk⟩
  dsimp only at hk ⊢
  obtain ⟨ka2, kc2, rfl, _⟩ := hk.shape
  refine x_ ?_
  refine Run.op1 (ostE (arr := (kdC d (.slice ka d.r.keys.length kc) (.slice oa d.c.os.length oc) (.slice sa d.c.sg.length sc) (.slice ua d.r.used.length uc)).toArray) (e := 45) (L' := kb ++ [(b2, Obj.cells ti45.zero.cells 45 (0, 0))]) (kdC d (.slice ka2 d.r.keys.length kc2) (.slice oa d.c.os.length oc) (.slice sa d.c.sg.length sc) (.slice ua d.r.used.length uc)).toArray (hL := (perm_of fun f => by (simp only [List.map_append, List.map_cons, List.map_nil, List.sum_append, List.sum_cons, List.sum_nil] <;> omega))) (he := by exact kd_w3 _ _ _ _ _ _) (hf := by rw [hsz]; decide) (h1 := by exact one_s' _ _ _)) (fun _ => ?_)
  have q39 := kd_r39 d (.slice ka2 d.r.keys.length kc2) (.slice oa d.c.os.length oc) (.slice sa d.c.sg.length sc) (.slice ua d.r.used.length uc)
  refine x_ ?_
  refine Run.op1 (OpTo.callMk Tryz.func46 rfl rfl rfl rfl rfl rfl (fun w' hm => hO w' hm.fr)) ?_
  rintro ⟨⟨ov2, ob⟩, ho⟩
  dsimp only at ho ⊢
  obtain ⟨oa2, oc2, rfl, _⟩ := ho.shape
  refine x_ ?_
  refine Run.op1 (ostE (arr := (kdC d (.slice ka2 d.r.keys.length kc2) (.slice oa d.c.os.length oc) (.slice sa d.c.sg.length sc) (.slice ua d.r.used.length uc)).toArray) (e := 45) (L' := ob ++ (kb ++ [(b2, Obj.cells ti45.zero.cells 45 (0, 0))])) (kdC d (.slice ka2 d.r.keys.length kc2) (.slice oa2 d.c.os.length oc2) (.slice sa d.c.sg.length sc) (.slice ua d.r.used.length uc)).toArray (hL := (perm_of fun f => by (simp only [List.map_append, List.map_cons, List.map_nil, List.sum_append, List.sum_cons, List.sum_nil] <;> omega))) (he := by exact kd_w39 _ _ _ _ _ _) (hf := by rw [hsz]; decide) (h1 := by exact one_s' _ _ _)) (fun _ => ?_)
  have q40 := kd_r40 d (.slice ka2 d.r.keys.length kc2) (.slice oa2 d.c.os.length oc2) (.slice sa d.c.sg.length sc) (.slice ua d.r.used.length uc)
  refine x_ ?_
  refine Run.op1 (OpTo.callMk Tryz.func47 rfl rfl rfl rfl rfl rfl (fun w' hm => hS w' hm.fr)) ?_
  rintro ⟨⟨sv2, gb⟩, hg⟩
  dsimp only at hg ⊢
  obtain ⟨sa2, sc2, rfl, _⟩ := hg.shape
  refine x_ ?_
  refine Run.op1 (ostE (arr := (kdC d (.slice ka2 d.r.keys.length kc2) (.slice oa2 d.c.os.length oc2) (.slice sa d.c.sg.length sc) (.slice ua d.r.used.length uc)).toArray) (e := 45) (L' := gb ++ (ob ++ (kb ++ [(b2, Obj.cells ti45.zero.cells 45 (0, 0))]))) (kdC d (.slice ka2 d.r.keys.length kc2) (.slice oa2 d.c.os.length oc2) (.slice sa2 d.c.sg.length sc2) (.slice ua d.r.used.length uc)).toArray (hL := (perm_of fun f => by (simp only [List.map_append, List.map_cons, List.map_nil, List.sum_append, List.sum_cons, List.sum_nil] <;> omega))) (he := by exact kd_w40 _ _ _ _ _ _) (hf := by rw [hsz]; decide) (h1 := by exact one_s' _ _ _)) (fun _ => ?_)
  have q41 := kd_r41 d (.slice ka2 d.r.keys.length kc2) (.slice oa2 d.c.os.length oc2) (.slice sa2 d.c.sg.length sc2) (.slice ua d.r.used.length uc)
  refine x_ ?_
  refine Run.op1 (OpTo.callMk Tryz.func48 rfl rfl rfl rfl rfl rfl (fun w' hm => hD w' hm.fr)) ?_
  rintro ⟨⟨uv2, ub⟩, hu⟩
  dsimp only at hu ⊢
  obtain ⟨ua2, uc2, rfl, _⟩ := hu.shape
  refine x_ ?_
  refine Run.op1 (ostE (arr := (kdC d (.slice ka2 d.r.keys.length kc2) (.slice oa2 d.c.os.length oc2) (.slice sa2 d.c.sg.length sc2) (.slice ua d.r.used.length uc)).toArray) (e := 45) (L' := ub ++ (gb ++ (ob ++ (kb ++ [(b2, Obj.cells ti45.zero.cells 45 (0, 0))])))) (kdC d (.slice ka2 d.r.keys.length kc2) (.slice oa2 d.c.os.length oc2) (.slice sa2 d.c.sg.length sc2) (.slice ua2 d.r.used.length uc2)).toArray (hL := (perm_of fun f => by (simp only [List.map_append, List.map_cons, List.map_nil, List.sum_append, List.sum_cons, List.sum_nil] <;> omega))) (he := by exact kd_w41 _ _ _ _ _ _) (hf := by rw [hsz]; decide) (h1 := by exact one_s' _ _ _)) (fun _ => ?_)
  have hfs : (kdC d (.slice ka2 d.r.keys.length kc2) (.slice oa2 d.c.os.length oc2) (.slice sa2 d.c.sg.length sc2) (.slice ua2 d.r.used.length uc2)).toArray.size = 42 := hsz _ _ _ _
  refine x_ ?_
  refine Run.op1 (osa (arr := ti45.zero.cells) (e := 45) (L' := (b1, Obj.cells (kdC d (.slice ka2 d.r.keys.length kc2) (.slice oa2 d.c.os.length oc2) (.slice sa2 d.c.sg.length sc2) (.slice ua2 d.r.used.length uc2)).toArray 45 (0, 0)) :: (ub ++ (gb ++ (ob ++ kb)))) (kdC d (.slice ka2 d.r.keys.length kc2) (.slice oa2 d.c.os.length oc2) (.slice sa2 d.c.sg.length sc2) (.slice ua2 d.r.used.length uc2)).toArray (kdC_one _ rfl rfl rfl rfl) (hL := (perm_of fun f => by (simp only [List.map_append, List.map_cons, List.map_nil, List.sum_append, List.sum_cons, List.sum_nil] <;> omega))) (hs := by exact hfs)) (fun _ => ?_)
  refine x_ ?_
  refine RQ.ret1 rfl (Res.cellAll tabOk rfl rfl rfl m0 hfs) fun w' hm => MakesD.of (V := fun y : KX => .agg y.c.toArray) (bl := ub ++ (gb ++ (ob ++ kb))) ⟨d, (ka2, kc2), (oa2, oc2), (sa2, sc2), (ua2, uc2)⟩ hm (fun p hp => List.mem_cons_of_mem _ (List.mem_cons_of_mem _ hp)) ?_ rfl (fun w hw => ⟨hk.srcW hw.right.right.right, ho.srcW hw.right.right.left, hg.srcW hw.right.left, hu.srcW hw.left⟩)
  have := hm.nd
  rw [List.map_cons, List.map_cons, List.nodup_cons, List.nodup_cons] at this
  exact this.2.2
end Go.Proofs.YtkkfaffehbjdgaaGreatDoor
end
section
/- cert: a state of one record: Side, Set. -/
namespace Go.Proofs.YtkkfaffehbjdgaaGreatDoor
attribute [local irreducible] Go.Vc.Run Go.Vc.RC Go.Vc.RQ Go.Vc.DR Go.Vc.DOp Go.Vc.Knows Go.Vc.At
set_option maxHeartbeats 400000
set_option maxRecDepth 10000
open Go Go.Vc Go.Sha
/-- A state that has one record. -/
def KW (sb b cap : Nat) (rest : List Value) (x : KX) : Hp := [(sb, Obj.cells #[.slice (some ⟨b, 0, none⟩) 1 cap] 81 (0, 0)), (b, Obj.cells (x.c ++ rest).toArray 45 (0, 0))]
set_option maxRecDepth 10000 in set_option maxHeartbeats 4000000 in
theorem SideK_calls (x : KX) (hl : x.ln) (sb b cap : Nat) (rest : List Value) (w : World) (hw : Has (KW sb b cap rest x) w) (hok : x.ok w) :
    MakesD Tryz.prog 12 [.pointer (some ⟨sb, 0, none⟩), .int .i64 0] w (fun y : KX => .tuple #[.agg y.c.toArray, .bool true]) (fun y => y.d = x.d) (fun w y => y.ok w) := by
  refine enter Tryz.func12 rfl (Mem.nil w []) rfl ?_
  have h1 : w.heap[sb]? = some (Obj.cells #[.slice (some ⟨b, 0, none⟩) 1 cap] 81 (0, 0)) := hw _ List.mem_cons_self
  have h2 : w.heap[b]? = some (Obj.cells (x.c ++ rest).toArray 45 (0, 0)) := hw _ (List.mem_cons_of_mem _ List.mem_cons_self)
  have hcell := cell_sb h1
  have hI := fun w' hs' => in_calls sb 1 cap (some ⟨b, 0, none⟩) (by decide) 0 w' hs'
  rw [show decide ((0 : Int) ≤ 0 ∧ (0 : Int) < ((1 : Nat) : Int)) = true from rfl] at hI
  have hload : ∀ j u, x.c[j]? = some u → w.cell? ((Addr.add ⟨b, 0, none⟩ (0 * 42)).add j) = some u := fun j u hj => by
    rw [Nat.zero_mul, add_add, add_lit, cell_of_row w b _ _ _ _ h2, Nat.zero_add, Nat.zero_add, List.getElem?_toArray, List.getElem?_append_left (List.getElem?_eq_some_iff.1 hj).1]
    exact hj
  have hsl := x.len
  refine z_ ?_
  refine Run.nw nal ?_
  intro b4
  refine z_ ?_
  refine Run.op1 (OpTo.cv Tryz.func26 (fun w' hm => hI w' (hm.old h1))) (fun _ => ?_)
  refine z_ ?_
  refine Run.a (vlo hcell) ?_
  refine z_ ?_
  refine Run.a (vix 0 (show 0 < 1 by decide) (Addr.add ⟨b, 0, none⟩ (0 * 42))) ?_
  refine Run.a (vloA hload hsl) ?_
  refine Run.op1 (OpTo.callD Tryz.func27 (fun w' hm => copiedK_calls x hl w' (hok.fr hm.fr))) ?_
  rintro ⟨⟨s2, bl⟩, hr2, hk2⟩
  dsimp only at hr2 hk2 ⊢
  have hl2 : s2.c.toArray.size = 42 := by rw [List.size_toArray, s2.len]
  refine Run.op1 (osa s2.c.toArray s2.one (hs := by exact hl2)) (fun _ => ?_)
  refine z_ ?_
  refine RQ.ret2 rfl (Res.cellAll tabOk rfl rfl rfl m0 hl2) (Res.tmp rfl) fun w' hm => MakesD.of (V := fun y : KX => Value.tuple #[.agg y.c.toArray, .bool true]) (bl := bl) s2 hm (fun p hp => List.mem_cons_of_mem _ (List.mem_append_left _ hp)) ?_ hr2 hk2
  have := hm.nd
  rw [List.map_cons, List.nodup_cons, List.append_nil] at this
  exact this.2
set_option maxRecDepth 10000 in set_option maxHeartbeats 4000000 in
theorem SetK_calls (x y : KX) (hl : y.ln) (sb b cap : Nat) (rest : List Value) (hcap : 42 + rest.length = cap * 42) {ap : Hp} (hk : ∀ w, Has ap w → y.ok w) (w : World) (hw : Has (KW sb b cap rest x ++ ap) w) (hnd : ((KW sb b cap rest x ++ ap).map (·.1)).Nodup) :
    Turns Tryz.prog 23 [.pointer (some ⟨sb, 0, none⟩), .int .i64 0, .agg y.c.toArray] w (KW sb b cap rest x ++ ap)
      (Y := {z : KX × Hp // z.1.d = y.d ∧ ∀ w, Has z.2 w → z.1.ok w}) (fun _ => .bool true) (fun z => KW sb b cap rest z.1.1 ++ (z.1.2 ++ ap)) := by
  have hI := fun w' hs' => in_calls sb 1 cap (some ⟨b, 0, none⟩) (by decide) 0 w' hs'
  rw [show decide ((0 : Int) ≤ 0 ∧ (0 : Int) < ((1 : Nat) : Int)) = true from rfl] at hI
  unfold KW at hw hnd ⊢
  have hcop := fun w' h1 => copiedK_calls y hl w' h1
  refine enter Tryz.func23 rfl (Mem.init (S0 := (_ :: _ :: ap).map (·.1)) hw (fun p hp => List.mem_map_of_mem hp) hnd) rfl ?_
  have hys := y.len
  refine z_ ?_
  refine Run.nw nbx ?_
  intro b5
  refine z_ ?_
  refine Run.op1 (OpTo.cv Tryz.func26 (fun w' hm => hI w' (hm.has _ m1))) (fun _ => ?_)
  refine z_ ?_
  (repeat refine RC.seq ?_); refine RC.draw ([(b5, .cells y.c.toArray 45 (0, 0)), (sb, .cells #[.slice (some ⟨b, 0, none⟩) 1 cap] 81 (0, 0))]) mixed (N := 9) rfl ?_
  refine dt 0 ?_
  refine dt 1 ?_
  refine dt 2 ?_
  refine dt 3 ?_
  refine dt 4 ?_
  refine DR.t 5 rfl (vla (hv := by exact y.len)) ?_
  refine DR.c 6 (DOp.op1 rfl (OpTo.callD Tryz.func27 (fun w' hm => hcop w' (hk w' fun p hp => hm.has p (List.mem_cons_of_mem _ (List.mem_cons_of_mem _ (List.mem_cons_of_mem _ hp)))))) ?_)
  rintro ⟨⟨s2, bl⟩, hr2, hk2⟩
  dsimp only at hr2 hk2 ⊢
  refine DR.t 7 rfl (vix 0 (show 0 < 1 by decide) ⟨b, 0 * 42, none⟩) ?_
  have hW : wrAt (x.c ++ rest).toArray (0 * 42) s2.c = (s2.c ++ rest).toArray := wr_at' (pre := []) (old := x.c) (new := s2.c) (post := rest) rfl rfl (by rw [x.len, s2.len]) rfl
  refine DR.c 8 (DOp.op1 rfl (ost (L' := bl ++ [(b5, .cells y.c.toArray 45 (0, 0)), (sb, .cells #[.slice (some ⟨b, 0, none⟩) 1 cap] 81 (0, 0))] ++ ap) (arr := (x.c ++ rest).toArray) (e := 45) (b := b) (off := 0 * 42) (v := .agg s2.c.toArray) (ti := ti45) (s2.c ++ rest).toArray hW (by rw [List.size_toArray, List.length_append, x.len]; show 0 * 42 + 42 ≤ _; omega) s2.one (hL := (perm_of fun f => by (simp only [List.map_append, List.map_cons, List.map_nil, List.sum_append, List.sum_cons, List.sum_nil] <;> omega))) (hs := s2.len)) (fun _ => ?_))
  refine DR.done (by kernel_rfl) (RQ.next ?_)
  refine z_ ?_
  exact RQ.ret1 rfl (Res.tmp rfl) fun w' hm => Turns.of (Y := {z : KX × Hp // z.1.d = y.d ∧ ∀ w, Has z.2 w → z.1.ok w}) (V := fun _ => .bool true) (L' := fun z => [(sb, Obj.cells #[.slice (some ⟨b, 0, none⟩) 1 cap] 81 (0, 0)), (b, Obj.cells (z.1.1.c ++ rest).toArray 45 (0, 0))] ++ (z.1.2 ++ ap)) (Lst := [(sb, Obj.cells #[.slice (some ⟨b, 0, none⟩) 1 cap] 81 (0, 0)), (b, Obj.cells (x.c ++ rest).toArray 45 (0, 0))] ++ ap) ⟨(s2, bl), hr2, hk2⟩ hm (Lr := [(b5, .cells y.c.toArray 45 (0, 0))]) (by dsimp only; exact (perm_of fun f => by (simp only [List.map_append, List.map_cons, List.map_nil, List.sum_append, List.sum_cons, List.sum_nil] <;> omega)))
end Go.Proofs.YtkkfaffehbjdgaaGreatDoor
end
section
/- cert: sums of money; Sum. -/
namespace Go.Proofs.YtkkfaffehbjdgaaGreatDoor
attribute [local irreducible] Go.Vc.Run Go.Vc.RC Go.Vc.RQ Go.Vc.DR Go.Vc.DOp Go.Vc.Knows Go.Vc.At
set_option maxHeartbeats 400000
set_option maxRecDepth 10000
open Go Go.Vc Go.Sha
set_option maxRecDepth 10000 in set_option maxHeartbeats 4000000 in
theorem Both_calls (a b n : Int) (ha : 0 ≤ a ∧ a ≤ 1125899906842624) (hb : 0 ≤ b ∧ b ≤ 1125899906842624) (hn : 0 ≤ n ∧ n ≤ 1125899906842624) (w : World) : Gives Tryz.prog 80 [.int .i64 a, .int .i64 b, .int .i64 n] (.tuple #[.int .i64 n, .bool true]) w := by
  refine enter Tryz.func80 rfl (Mem.nil w []) rfl ?_
  have k1 : Knows Tryz.prog w 41 [.int .i64 a] (.bool true) := (Knows.mk Tryz.func41 (fun w' _ => mMay_calls a w')).cv (by rw [decide_eq_true ha])
  have k2 : Knows Tryz.prog w 41 [.int .i64 b] (.bool true) := (Knows.mk Tryz.func41 (fun w' _ => mMay_calls b w')).cv (by rw [decide_eq_true hb])
  have k3 : Knows Tryz.prog w 41 [.int .i64 n] (.bool true) := (Knows.mk Tryz.func41 (fun w' _ => mMay_calls n w')).cv (by rw [decide_eq_true hn])
  refine x_ ?_
  exact RQ.ret2 rfl (Res.tmp rfl) (Res.tmp rfl) fun w' hm => ⟨rfl, hm.fr⟩
set_option maxRecDepth 10000 in set_option maxHeartbeats 4000000 in
theorem AddM_calls (a b : Int) (ha : 0 ≤ a ∧ a ≤ 1125899906842624) (hb : 0 ≤ b ∧ b ≤ 1125899906842624) (hn : a + b ≤ 1125899906842624) (w : World) : Gives Tryz.prog 49 [.int .i64 a, .int .i64 b] (.tuple #[.int .i64 (a + b), .bool true]) w := by
  refine enter Tryz.func49 rfl (Mem.nil w []) rfl ?_
  have k1 : Knows Tryz.prog w 80 [.int .i64 a, .int .i64 b, .int .i64 (a + b)] (.tuple #[.int .i64 (a + b), .bool true]) := Knows.mk Tryz.func80 (fun w' _ => Both_calls a b (a + b) ha hb ⟨by omega, hn⟩ w')
  refine x_ ?_
  exact RQ.ret2 rfl (Res.tmp rfl) (Res.tmp rfl) fun w' hm => ⟨rfl, hm.fr⟩
theorem sum_le : ∀ (l : List Int), (∀ x ∈ l, 0 ≤ x ∧ x ≤ 100000) → 0 ≤ l.sum ∧ l.sum ≤ l.length * 100000
  | [], _ => ⟨Int.le_refl _, Int.le_refl _⟩
  | a :: l, h => by
    have h1 := sum_le l fun x hx => h x (List.mem_cons_of_mem _ hx)
    have h2 := h a List.mem_cons_self
    rw [List.sum_cons, List.length_cons]
    omega
theorem sum_take {l : List Int} {k : Nat} {x : Int} (h : l[k]? = some x) : (l.take (k + 1)).sum = (l.take k).sum + x := by
  rw [List.take_add_one, h, List.sum_append]
  simp
set_option maxRecDepth 10000 in set_option maxHeartbeats 4000000 in
theorem MSum_calls (l : List Int) (hl : ∀ x ∈ l, 0 ≤ x ∧ x ≤ 100000) (hn : l.length ≤ 64) (v : Value) (w : World) (hs : SrcW w 1 v l.length (i64L l)) : Gives Tryz.prog 28 [v] (.tuple #[.int .i64 l.sum, .bool true]) w := by
  refine enter Tryz.func28 rfl (Mem.nil w []) rfl ?_
  obtain ⟨va, vc, rfl, hvc⟩ := hs.shape
  refine x_ ?_
  refine RC.up l.length (D := Unit) (fun _ _ => True) (fun k _ => [(10, .int .i64 k), (9, .int .i64 l.length), (8, .slice va l.length vc), (5, .bool true), (4, .int .i64 (l.take k).sum)]) (fun _ _ => []) 0 () (Nat.zero_le _) trivial ⟨rfl, rfl, rfl, rfl, rfl, trivial⟩ (List.Sublist.refl _) ?_
  intro k _ hk _
  by_cases hk' : k < l.length
  · obtain ⟨x, hx⟩ : ∃ x, l[k]? = some x := ⟨_, List.getElem?_eq_getElem hk'⟩
    obtain ⟨ad, c', hv', hc', hcl, hr⟩ := hs.pos (by omega)
    cases hv'
    have hx1 := hl x (List.mem_of_getElem? hx)
    have hs1 := sum_le (l.take k) fun y hy => hl y (List.mem_of_mem_take hy)
    rw [List.length_take] at hs1
    have hst := sum_take hx
    generalize (l.take k).sum = s at hs1 hst ⊢
    have hcx : w.cell? (ad.add (k * 1)) = some (.int .i64 x) := by
      rw [Nat.mul_one]
      exact hr k _ (by unfold i64L; rw [List.getElem?_map, hx]; rfl)
    have kA : Knows Tryz.prog w 49 [.int .i64 s, .int .i64 x] (.tuple #[.int .i64 (s + x), .bool true]) := Knows.mk Tryz.func49 (fun w' _ => AddM_calls s x (by omega) (by omega) (by omega) w')
    refine x_ ?_
    exact RQ.up (k + 1) () (Nat.lt_succ_self _) hk' trivial ⟨rfl, rfl, rfl, rfl, by rw [hst]; rfl, trivial⟩ (List.Sublist.refl _)
  · obtain rfl : k = l.length := by omega
    rw [List.take_length]
    refine x_ ?_
    exact RQ.ret2 rfl (Res.tmp rfl) (Res.tmp rfl) fun w' hm => ⟨rfl, hm.fr⟩
/-- What it pays. -/
def payS (c : CeD) : Int := (c.os.map OutD.am).sum
theorem ce_r19 (c : CeD) (u v : Value) : rdAt ti33 (ceC c u v).toArray 19 = some u := rd_one rfl (at_mid (pre := .int .i64 c.sd :: .int .i64 c.ep :: .int .i64 c.ql :: (u8s c.en.1 ++ u8s c.ro.1)) (post := [v]) (by unfold ceC; simp only [List.cons_append, List.append_assoc, List.nil_append]) (by simp only [List.length_cons, List.length_append, u8s_len, c.en.2.1, c.ro.2.1]))
theorem out_r8 (o : OutD) : rdAt ti3 o.c.toArray 8 = some (.int .i64 o.am) := rd_one rfl (at_mid (pre := u8s o.t.1) (post := []) rfl (by rw [u8s_len, o.t.2.1]))
set_option maxRecDepth 10000 in set_option maxHeartbeats 4000000 in
theorem CSum_calls (c : CeD) (hl : ∀ o ∈ c.os, 0 ≤ o.am ∧ o.am ≤ 100000) (hn : c.os.length ≤ 64) (aA : Option Addr) (cA : Nat) (vS : Value) (w : World) (ho : SrcW w 9 (.slice aA c.os.length cA) c.os.length (rws OutD.c c.os)) : Gives Tryz.prog 13 [.agg (ceC c (.slice aA c.os.length cA) vS).toArray] (.tuple #[.int .i64 (payS c), .bool true]) w := by
  refine enter Tryz.func13 rfl (Mem.nil w []) rfl ?_
  have r19 := ce_r19 c (.slice aA c.os.length cA) vS
  have h21 : (ceC c (.slice aA c.os.length cA) vS).toArray.size = 21 := by rw [List.size_toArray, ceC_len]
  generalize ceC c (.slice aA c.os.length cA) vS = F at r19 h21 ⊢
  refine z_ ?_
  refine Run.nw nbx ?_
  intro b1
  refine x_ ?_
  refine RC.up c.os.length (D := (Option Addr × Nat) × Hp) (fun k d => Own 3 1 (.slice d.1.1 k d.1.2) k (i64L ((c.os.take k).map OutD.am)) d.2) (fun k d => [(10, .int .i64 k), (9, .int .i64 c.os.length), (8, .slice aA c.os.length cA), (4, .slice d.1.1 k d.1.2), (1, .pointer (some ⟨b1, 0, none⟩))]) (fun _ d => d.2 ++ [(b1, Obj.cells F.toArray 36 (0, 0))]) 0 ((none, 0), []) (Nat.zero_le _) Own.nil ⟨rfl, rfl, rfl, rfl, rfl, trivial⟩ (List.Sublist.refl _) ?_
  rintro k ⟨⟨wa, wc⟩, wl⟩ hk hown
  dsimp only at hown ⊢
  by_cases hk' : k < c.os.length
  · obtain ⟨o, hx⟩ : ∃ o, c.os[k]? = some o := ⟨_, List.getElem?_eq_getElem hk'⟩
    obtain ⟨ad, c', hv', hc', hcl, hr⟩ := ho.pos (by omega)
    cases hv'
    have q0 : At w (ad.add (k * 9)) o.c := At.mk fun j u hj => by
      rw [add_add]
      exact hr _ u (rws_at OutD.len hx j u hj)
    have hol : o.c.length = ti49.size := o.len
    have ho9 : o.c.toArray.size = 9 := by rw [List.size_toArray, OutD.len]
    have r8 := out_r8 o
    refine x_ ?_
    refine Run.nw nal ?_
    intro b6
    refine x_ ?_
    refine Run.op1 (osa (arr := ti49.zero.cells) (e := 49) (L' := wl ++ [(b1, Obj.cells F.toArray 36 (0, 0))]) o.c.toArray o.one (hL := (perm_of fun f => by (simp only [List.map_append, List.map_cons, List.map_nil, List.sum_append, List.sum_cons, List.sum_nil] <;> omega))) (hs := by exact ho9)) (fun _ => ?_)
    refine x_ ?_
    refine Run.nw (nbsk (parts := [(0, .tmp 16)]) #[.int .i64 o.am]) ?_
    intro b17
    refine Run.op1 (OpTo.append (L1 := (b17, Obj.cells #[.int .i64 o.am] 3 (0, 0)) :: (b6, Obj.cells o.c.toArray 49 (0, 0)) :: [(b1, Obj.cells F.toArray 36 (0, 0))]) tabOk hown (Src.at ⟨b17, 0, none⟩ 1 1 [.int .i64 o.am] rfl (Rd.rowAll m0)) rfl rfl rfl rfl rfl rfl rfl rfl rfl (perm_of fun f => by (simp only [List.map_append, List.map_cons, List.map_nil, List.sum_append, List.sum_cons, List.sum_nil] <;> omega)) (by intro u hu; rw [List.mem_singleton] at hu; subst hu; rfl) (by unfold maxLen; omega) (by simp only [ti3]; omega)) ?_
    rintro ⟨⟨v15, l15⟩, h15⟩
    dsimp only at h15 ⊢
    obtain ⟨wa2, wc2, rfl, hwc2⟩ := h15.shape
    refine x_ ?_
    exact RQ.upP (k + 1) ((wa2, wc2), l15) (Nat.lt_succ_self _) hk' (by dsimp only; rw [List.take_add_one, hx, List.map_append]; unfold i64L at h15 ⊢; rw [List.map_append]; exact h15) ⟨rfl, rfl, rfl, rfl, rfl, trivial⟩ (L1 := (l15 ++ [(b1, Obj.cells F.toArray 36 (0, 0))]) ++ [(b17, Obj.cells #[.int .i64 o.am] 3 (0, 0)), (b6, Obj.cells o.c.toArray 49 (0, 0))]) (perm_of fun f => by (simp only [List.map_append, List.map_cons, List.map_nil, List.sum_append, List.sum_cons, List.sum_nil] <;> omega)) (List.sublist_append_left _ _)
  · obtain rfl : k = c.os.length := by omega
    rw [List.take_length] at hown
    have hS : ∀ w', Has wl w' → Gives Tryz.prog 28 [.slice wa c.os.length wc] (.tuple #[.int .i64 (payS c), .bool true]) w' := fun w' hw => by
      have hh := hown.srcW hw
      rw [show c.os.length = (c.os.map OutD.am).length from (List.length_map _).symm] at hh ⊢
      exact MSum_calls (c.os.map OutD.am) (fun x hx => by obtain ⟨o, ho, rfl⟩ := List.mem_map.1 hx; exact hl o ho) (by rw [List.length_map]; exact hn) _ w' hh
    refine x_ ?_
    refine Run.op1 (OpTo.cv Tryz.func28 (fun w' hm => hS w' (fun q hq => hm.has q (by repeat (first | exact List.mem_append_left _ hq | exact hq | apply List.mem_append_right | apply List.mem_cons_of_mem))))) (fun _ => ?_)
    refine x_ ?_
    exact RQ.ret2 rfl (Res.tmp rfl) (Res.tmp rfl) fun w' hm => ⟨rfl, hm.fr⟩
end Go.Proofs.YtkkfaffehbjdgaaGreatDoor
end
section
/- tx: the reader: what has no lists (gen_ty0.py prints it). -/
namespace Go.Proofs.YtkkfaffehbjdgaaGreatDoor
attribute [local irreducible] Go.Vc.Run Go.Vc.RC Go.Vc.RQ Go.Vc.DR Go.Vc.DOp Go.Vc.Knows Go.Vc.At
set_option maxHeartbeats 400000
set_option maxRecDepth 10000
open Go Go.Vc Go.Sha
end Go.Proofs.YtkkfaffehbjdgaaGreatDoor

/- tx: the reader: in, lists (gen_ty1.py prints it). -/
namespace Go.Vc
open Go Go.Sha
theorem fill_two' {place : Nat → Option (Nat × Nat)} {z : Array Value} {u v : Value} {F : List Value} {a b : Nat} (h0 : place 0 = some (0, a)) (h1 : place 1 = some (a, b)) (hu : u.cells.size = a) (hv : v.cells.size = b) (hz : a + b ≤ z.size) (hF : u.cells.toList ++ (v.cells.toList ++ z.toList.drop (a + b)) = F) :
    Instr.fill place z [(0, u), (1, v)] = some F.toArray := by
  have e0 : wrAt z 0 u.cells.toList = (u.cells.toList ++ z.toList.drop a).toArray := by
    unfold wrAt
    simp [hu]
  rw [fill_step (off := 0) (by rw [h0, hu]) (by omega), e0]
  rw [fill_step (off := a) (by rw [h1, hv]) (by simp [hu]; omega)]
  have e1 : wrAt (u.cells.toList ++ z.toList.drop a).toArray a v.cells.toList = F.toArray := by
    refine wr_at' (pre := u.cells.toList) (old := (z.toList.drop a).take b) (post := z.toList.drop (a + b)) ?_ hF.symm (by rw [List.length_take, List.length_drop, Array.length_toList, Array.length_toList, hv]; omega) (by rw [Array.length_toList, hu])
    rw [← List.drop_drop, List.take_append_drop]
  rw [e1]
  rfl
end Go.Vc
namespace Go.Proofs.YtkkfaffehbjdgaaGreatDoor
attribute [local irreducible] Go.Vc.Run Go.Vc.RC Go.Vc.RQ Go.Vc.DR Go.Vc.DOp Go.Vc.Knows Go.Vc.At
set_option maxHeartbeats 400000
set_option maxRecDepth 10000
open Go Go.Vc Go.Sha
end Go.Proofs.YtkkfaffehbjdgaaGreatDoor
end
