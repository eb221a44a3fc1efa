/- Lemmas. -/
import Derived.Test.YtkkfaffehbjdgaaGreatDoorPk35
set_option linter.unusedSimpArgs false
set_option linter.unusedVariables false
section
/- cert: who signs: the plain law; the reference's CheckCert. -/
namespace Go.Sha
/-- Numbers that go up, each below n. -/
def incN (n : Nat) : Int → List Int → Bool
  | _, [] => true
  | last, k :: r => decide (last < k) && (decide (k < (n : Int)) && incN n k r)
theorem incN_few {n : Nat} : ∀ (l : List Int) (last : Int), -1 ≤ last → incN n last l = true → (l.length : Int) ≤ n - (last + 1) ∨ l = []
  | [], _, _, _ => .inr rfl
  | k :: r, last, h0, h => by
    unfold incN at h
    rw [Bool.and_eq_true, Bool.and_eq_true] at h
    have h1 := of_decide_eq_true h.1
    have h2 := of_decide_eq_true h.2.1
    left
    rcases incN_few r k (by omega) h.2.2 with h3 | h3
    · rw [List.length_cons]; omega
    · rw [h3]; show ((0 + 1 : Nat) : Int) ≤ _; omega
theorem goes_whoN {n : Nat} {m : List Nat} {who : List Int} (hw : ∀ i, i < who.length → ∃ k : Nat, who.getD i 0 = (k : Int)) : ∀ (d i : Nat) (last : Int), i + d = who.length → goes (certs n) m last ((sgL m who [] who.length).drop i) = incN n last (who.drop i)
  | 0, i, last, h => by
    rw [List.drop_of_length_le (by rw [sgL_len]; omega), List.drop_of_length_le (by omega)]
    rfl
  | d + 1, i, last, h => by
    obtain ⟨k, hk⟩ := hw i (by omega)
    have ih := goes_whoN (n := n) (m := m) hw d (i + 1) (k : Int) (by omega)
    have hd : who.drop i = (k : Int) :: who.drop (i + 1) := by
      rw [List.drop_eq_getElem_cons (show i < who.length by omega)]
      congr 1
      have := getD_some (l := who) (i := i) (by omega) 0
      rw [hk] at this
      exact (List.getElem?_eq_some_iff.1 this).2
    rw [goes_step (sgL_at (by omega)), hd, show (sgOne m who [] i).key = (k : Int) from hk]
    unfold incN
    by_cases hkn : k < n
    · rw [right_signed hk hkn, ih, decide_eq_true (show (k : Int) < (n : Int) by omega), Bool.true_and]
    · rw [rightS_bad (by rw [certs_len]; show ¬ (0 ≤ (sgOne m who [] i).key ∧ (sgOne m who [] i).key < (n : Int)); rw [show (sgOne m who [] i).key = (k : Int) from hk]; omega), decide_eq_false (show ¬ (k : Int) < (n : Int) by omega), Bool.false_and, Bool.false_and]
theorem chk_whoN {n : Nat} {nd : Int} {m : List Nat} {who : List Int} (hw : ∀ i, i < who.length → ∃ k : Nat, who.getD i 0 = (k : Int)) (h : n ≤ 5) (h1 : 1 ≤ n) (h2 : 1 ≤ nd) (h3 : nd ≤ n) : chkQ 4 2 nd (certs n) m (sgL m who [] who.length) = (decide (nd ≤ who.length) && incN n (-1) who) := by
  unfold chkQ
  rw [may_certs h h1 h2 h3, sgL_len, Bool.true_and]
  have := goes_whoN (n := n) (m := m) hw who.length 0 (-1) (Nat.zero_add _)
  rw [List.drop_zero, List.drop_zero] at this
  rw [this]
end Go.Sha
namespace Go.Proofs.YtkkfaffehbjdgaaGreatDoor
attribute [local irreducible] Go.Vc.Run Go.Vc.RC Go.Vc.RQ Go.Vc.DR Go.Vc.DOp Go.Vc.Knows Go.Vc.At
set_option maxHeartbeats 400000
set_option maxRecDepth 10000
open Go Go.Vc Go.Sha
theorem may_crtT {c : CeD} (h : c.may) : TxMay (crtT c) ∧ TxMay (tCert c) := by
  refine ⟨TxMay.cert _ ⟨fun s hs => ?_, h.2.1, h.2.2.1, by show 1 ≤ 1 ∧ 1 ≤ 5; decide⟩, TxMay.cert _ h⟩
  rw [List.mem_singleton] at hs
  subst hs
  exact ⟨by decide, by decide⟩
theorem may_tCert {c : CeD} (h : TxMay (tCert c)) : c.may := by
  generalize ht : tCert c = t at h
  cases h with
  | cert c' h' =>
    have : c = c' := congrArg TxD.c ht
    rw [this]; exact h'
  | coin a b _ _ => exact absurd (congrArg TxD.kd ht) (by show ¬ (4 : Int) = 1; decide)
  | pay a b d _ _ _ _ => exact absurd (congrArg TxD.kd ht) (by show ¬ (4 : Int) = 2; decide)
  | create p _ => exact absurd (congrArg TxD.kd ht) (by show ¬ (4 : Int) = 3; decide)
  | claim l _ => exact absurd (congrArg TxD.kd ht) (by show ¬ (4 : Int) = 5; decide)
theorem chkK_may (d : Kd) (c : CeD) (h : Int) (e : List Nat) (ss : List Sg) : chkK d c h e ss = if c.may then (if fitsK d c h e ≠ 0 then fitsK d c h e else if chkQ d.r.ln d.r.wd d.r.nd d.r.keys (crtH c) ss = true then 0 else 11) else 4 := by
  unfold chkK
  by_cases hm : c.may
  · rw [if_pos (may_crtT hm), if_pos hm]
  · rw [if_neg (fun h => hm (may_tCert h.2)), if_neg hm]
set_option maxRecDepth 10000 in set_option maxHeartbeats 4000000 in
theorem RCheck_calls {n : Int} {rb : Nat} {pool : Hp} (st : RSt rb pool) (hrs : st.rs = [rcF n]) {c : CeD} {ss : List Sg} {no ns : Nat} (hc : CrF c ss no ns) (hno : no ≤ 64) (hns : ns ≤ 64) (aA : Option Addr) (cA : Nat) (aS : Option Addr) (cS : Nat) (h : Int) (e : List Nat) (he8 : e.length = 8) (w : World) (hst : StW 63 w rb st.v st.l)
    (ho : SrcW w 9 (.slice aA c.os.length cA) c.os.length (rws OutD.c c.os)) (hs : SrcW w 282 (.slice aS c.sg.length cS) c.sg.length (rws SgD.c c.sg)) :
    Gives Tryz.prog 15 [.pointer (some ⟨rb, 0, none⟩), .agg (ceC c (.slice aA c.os.length cA) (.slice aS c.sg.length cS)).toArray, .int .i64 h, .agg (u8s e).toArray] (.int .i64 (chkK ⟨rcF n, false, CeD.nul⟩ c h e ss)) w := by
  refine enter Tryz.func15 rfl (Mem.nil w []) rfl ?_
  have hosl := hc.os
  have hsgl := hc.sg
  obtain ⟨s, hsl, hsr⟩ := List.map_eq_singleton_iff.1 hrs
  rw [hsl] at hst
  obtain ⟨hs1, hs2, hs3⟩ := hst
  obtain ⟨ad, sc, hv, hc', hcl, hr⟩ := hs2.pos (show 0 < 1 by decide)
  rw [hv] at hs1
  have hcell := cell_sb hs1
  rw [rws_one] at hr
  have hAt : At w (ad.add (0 * 42)) s.c := At.mk fun j u hj => by rw [Nat.zero_mul]; exact hr j u hj
  have hs42 : s.c.length = 42 := s.len
  have hsT : s.c.length = ti95.size := s.len
  have hsok := hs3 s List.mem_cons_self
  have kMy : Knows Tryz.prog w 16 [.agg (ceC c (.slice aA c.os.length cA) (.slice aS c.sg.length cS)).toArray] (.bool (decide c.may)) := Knows.mk Tryz.func16 (fun w' hf => RMayCert_calls c (by omega) (by omega) (.slice aA c.os.length cA) aS cS w' (ho.fr hf) (hs.fr hf))
  have kS : Knows Tryz.prog w 33 [.agg (ceC c (.slice aA c.os.length cA) (.slice aS c.sg.length cS)).toArray] (.tuple #[.int .i64 (payS c), .bool true]) := Knows.mk Tryz.func33 (fun w' hf => RCSum_calls c hc.am (by omega) aA cA (.slice aS c.sg.length cS) w' (ho.fr hf))
  have kM : Knows Tryz.prog w 24 [.agg (ceC c (.slice aA c.os.length cA) (.slice aS c.sg.length cS)).toArray] (.tuple #[.agg (u8s (crtH c)).toArray, .bool (decide (TxMay (crtT c)))]) := Knows.mk Tryz.func24 (fun w' hf => RCertM_calls c aA cA aS c.sg.length cS (by omega) w' (ho.fr hf))
  have hm8 := crtH_lt c
  have hks := kdC_base s
  rw [hsr] at hks
  have hso : Knows Tryz.prog w 34 [.agg s.c.toArray, .int .i64 c.ep, .int .i64 h] (.bool (openB 3 4 2 c.ep h)) := by
    obtain ⟨rest, hr, hx⟩ := kdC_side ⟨rcF n, false, CeD.nul⟩ s.kv (.slice none 0 0) (.slice none 0 0) s.uv
    rw [hks, hx]
    exact Knows.mk Tryz.func34 (fun w' _ => ref_Open_calls _ _ _ _ _ _ hr s.hk _ _ w')
  have r0 : rdAt ti43 s.c.toArray 0 = some (.agg (prm 4 2 2 s.kv).toArray) := by rw [hks]; exact kd_r0 _ _ _ _ _
  have r5 : rdAt ti3 s.c.toArray 5 = some (.int .i64 n) := by rw [hks]; refine (kd_r5 _ _ _ _ _).trans ?_; rw [show (⟨rcF n, false, CeD.nul⟩ : Kd).r.bal = n from Int.zero_add n]
  have r9 : rdAt ti4 s.c.toArray 9 = some (.bool false) := by rw [hks]; exact kd_r9 _ _ _ _ _
  have r19 : rdAt ti4 s.c.toArray 19 = some (.bool false) := by rw [hks]; exact kd_r19 _ _ _ _ _
  have hkv : SrcW w 8 s.kv (certs 3).length (u8s (certs 3).flatten) := by have := hsok.1; rw [hsr] at this; exact this
  have kQ : Knows Tryz.prog w 35 [.agg (prm 4 2 2 s.kv).toArray, .agg (u8s (crtH c)).toArray, .slice aS c.sg.length cS] (.bool (chkQ 4 2 2 (certs 3) (crtH c) ss)) := Knows.mk Tryz.func35 (fun w' hf => qrefCheck_calls 4 2 2 (certs 3) (certs_HL 3) (by rw [certs_len]; decide) (crtH c) hm8.1 hm8.2 ss (by have := hc.sl; omega) s.kv (.slice aS c.sg.length cS) w' (hkv.fr hf) (by have := hs.fr hf; rw [hc.row, hc.sl] at this; rw [hc.sl]; exact this))
  have hs1c := s.one
  have c0 : rdAt ti3 (ceC c (.slice aA c.os.length cA) (.slice aS c.sg.length cS)).toArray 0 = some (.int .i64 0) := by rw [← hc.sd]; exact rd_one rfl rfl
  have c1 := ce_r1 c (.slice aA c.os.length cA) (.slice aS c.sg.length cS)
  have c3 := ce_r3 c (.slice aA c.os.length cA) (.slice aS c.sg.length cS)
  have c20 := ce_r20' c (.slice aA c.os.length cA) (.slice aS c.sg.length cS)
  have hc21 : (ceC c (.slice aA c.os.length cA) (.slice aS c.sg.length cS)).toArray.size = 21 := by rw [List.size_toArray, ceC_len]
  have he : (u8s e).toArray.size = 8 := by rw [List.size_toArray, u8s_len, he8]
  have hMs : (u8s (crtH c)).toArray.size = 8 := by rw [List.size_toArray, u8s_len, hm8.1]
  generalize ceC c (.slice aA c.os.length cA) (.slice aS c.sg.length cS) = F at kMy kS kM c0 c1 c3 c20 hc21 ⊢
  obtain ⟨fv, hfv⟩ : ∃ fv, fv = chkK ⟨rcF n, false, CeD.nul⟩ c h e ss := ⟨_, rfl⟩
  rw [← hfv]
  rw [chkK_may] at hfv
  obtain ⟨M, hM⟩ : ∃ M, M = crtH c := ⟨_, rfl⟩
  rw [← hM] at kM hMs kQ hfv
  generalize s.c = S at hAt hs42 hsT hso r0 r5 r9 r19 hs1c
  refine z_ ?_
  refine Run.nw nbx ?_
  intro b5
  refine z_ ?_
  refine Run.nw nbx ?_
  intro b7
  by_cases hmy : c.may
  rotate_left
  · rw [if_neg hmy] at hfv
    rw [decide_eq_false hmy] at kMy
    subst hfv
    refine x_ ?_
    exact RQ.ret1 rfl (Res.tmp rfl) fun w' hm => ⟨rfl, hm.fr⟩
  rw [if_pos hmy] at hfv
  rw [decide_eq_true hmy] at kMy
  refine x_ ?_
  (repeat refine RC.seq ?_); refine RC.draw ([(b5, Obj.cells F.toArray 36 (0, 0))]) mixed (N := 8) rfl ?_
  refine dy 0 ?_
  refine dy 1 ?_
  refine dy 2 ?_
  refine dy 3 ?_
  refine dy 4 ?_
  refine dy 5 ?_
  refine dy 6 ?_
  refine dy 7 ?_
  refine DR.done (by kernel_rfl) ?_
  refine x_ ?_
  (repeat refine RC.seq ?_); refine RC.draw ([(b5, Obj.cells F.toArray 36 (0, 0))]) mixed (N := 10) rfl ?_
  refine dy 0 ?_
  refine dy 1 ?_
  refine dy 2 ?_
  refine dy 3 ?_
  refine dy 4 ?_
  refine dy 5 ?_
  refine DR.t 6 rfl (vixA (j := 0) (hj := by exact Nat.zero_lt_one)) ?_
  refine dy 7 ?_
  refine DR.c 8 ?_
  refine DOp.op1 rfl (OpTo.new rfl rfl (nal)) ?_
  intro b9
  refine DR.c 9 ?_
  refine DOp.op1 rfl (osa (arr := ti95.zero.cells) (e := 95) (L' := [(b7, Obj.cells (u8s e).toArray 32 (0, 0)), (b5, Obj.cells F.toArray 36 (0, 0))]) S.toArray hs1c (hL := (perm_of fun f => by (simp only [List.map_append, List.map_cons, List.map_nil, List.sum_append, List.sum_cons, List.sum_nil] <;> omega))) (hs := by rw [List.size_toArray, hs42]; rfl)) (fun _ => ?_)
  refine DR.done (by kernel_rfl) ?_
  have hS42 : S.toArray.size = 42 := by rw [List.size_toArray, hs42]
  refine x_ ?_
  refine Run.nw nal ?_
  intro b12
  refine x_ ?_
  refine Run.op1 (osa (arr := ti32.zero.cells) (e := 32) (L' := [(b9, Obj.cells S.toArray 95 (0, 0)), (b7, Obj.cells (u8s e).toArray 32 (0, 0)), (b5, Obj.cells F.toArray 36 (0, 0))]) (u8s M).toArray (u8s_one M) (hL := (perm_of fun f => by (simp only [List.map_append, List.map_cons, List.map_nil, List.sum_append, List.sum_cons, List.sum_nil] <;> omega))) (hs := by exact hMs)) (fun _ => ?_)
  have hfK : fitsK ⟨rcF n, false, CeD.nul⟩ c h e = if openB 3 4 2 c.ep h = false ∨ c.en.1 ≠ e then 9 else if false = true ∧ c.ql ≤ CeD.nul.ql then 10 else if n < payS c then 5 else 0 := by
    show (if false = true then (14 : Int) else if openB 3 4 2 c.ep h = false ∨ c.en.1 ≠ e then 9 else if false = true ∧ c.ql ≤ CeD.nul.ql then 10 else if (rcF n).bal < payS c then 5 else 0) = _
    rw [show (rcF n).bal = n from Int.zero_add n, if_neg (by decide)]
  have hfv2 : fv = if openB 3 4 2 c.ep h = false ∨ c.en.1 ≠ e then 9 else if n < payS c then 5 else if chkQ 4 2 2 (certs 3) M ss = true then 0 else 11 := by
    rw [hfv, hfK]
    refine (ifs4 _ _ _ _).trans ?_
    simp only [Bool.false_eq_true, false_and, if_false]
    rfl
  clear hfv
  have hfv := hfv2
  cases hop : openB 3 4 2 c.ep h
  · rw [hop] at hso
    rw [if_pos (.inl hop)] at hfv
    subst hfv
    refine x_ ?_
    exact RQ.ret1 rfl (Res.tmp rfl) fun w' hm => ⟨rfl, hm.fr⟩
  rw [hop] at hso
  by_cases heq : c.en.1 = e
  rotate_left
  · rw [if_pos (.inr heq)] at hfv
    subst hfv
    refine x_ ?_
    refine Run.a (Val.eq (Val.neU (m := 8) (a := c.en.1) (b := e) tabOk rfl rfl rfl (by kernel_rfl) (by kernel_rfl) rfl rfl c.en.2.1 he8) (show _ = Value.bool true from by rw [decide_eq_false heq]; rfl)) ?_
    refine x_ ?_
    exact RQ.ret1 rfl (Res.tmp rfl) fun w' hm => ⟨rfl, hm.fr⟩
  rw [if_neg (by rintro (q | q); exact absurd (hop.symm.trans q) (by decide); exact q heq)] at hfv
  refine x_ ?_
  refine Run.a (Val.eq (Val.neU (m := 8) (a := c.en.1) (b := e) tabOk rfl rfl rfl (by kernel_rfl) (by kernel_rfl) rfl rfl c.en.2.1 he8) (show _ = Value.bool false from by rw [decide_eq_true heq]; rfl)) ?_
  by_cases hb : n < payS c
  · rw [if_pos hb] at hfv
    subst hfv
    refine x_ ?_
    exact RQ.ret1 rfl (Res.tmp rfl) fun w' hm => ⟨rfl, hm.fr⟩
  rw [if_neg hb] at hfv
  cases hq : chkQ 4 2 2 (certs 3) M ss
  · rw [hq] at kQ
    rw [hq, if_neg (by decide)] at hfv
    subst hfv
    refine x_ ?_
    exact RQ.ret1 rfl (Res.tmp rfl) fun w' hm => ⟨rfl, hm.fr⟩
  · rw [hq] at kQ
    rw [hq, if_pos rfl] at hfv
    subst hfv
    refine x_ ?_
    exact RQ.ret1 rfl (Res.tmp rfl) fun w' hm => ⟨rfl, hm.fr⟩
end Go.Proofs.YtkkfaffehbjdgaaGreatDoor
end
section
/- cert: CertSigns. -/
namespace Go.Sha
/-- One step of the law's own look. -/
def stepR (l : List Nat) (j : Nat) : Bool := decide (l.getD j 0 < 3) && (decide (j = 0) || decide (l.getD (j - 1) 0 < l.getD j 0))
def risB (l : List Nat) (k : Nat) : Bool := decide (2 ≤ l.length ∧ l.length ≤ 3) && (List.range k).all (stepR l)
theorem risB_succ (l : List Nat) (k : Nat) : risB l (k + 1) = (risB l k && stepR l k) := by
  unfold risB
  rw [List.range_succ, List.all_append, List.all_cons, List.all_nil, Bool.and_true, Bool.and_assoc]
def lastAt (l : List Nat) (i : Nat) : Int := if i = 0 then -1 else (l.getD (i - 1) 0 : Nat)
theorem incN_steps (l : List Nat) : ∀ (d i : Nat), i + d = l.length → incN 3 (lastAt l i) ((l.map fun k : Nat => (k : Int)).drop i) = (List.range' i d).all (stepR l)
  | 0, i, h => by
    rw [List.drop_of_length_le (by rw [List.length_map]; omega)]
    rfl
  | d + 1, i, h => by
    have hd : (l.map fun k : Nat => (k : Int)).drop i = ((l.getD i 0 : Nat) : Int) :: (l.map fun k : Nat => (k : Int)).drop (i + 1) := by
      rw [List.drop_eq_getElem_cons (show i < (l.map fun k : Nat => (k : Int)).length by rw [List.length_map]; omega)]
      congr 1
      rw [List.getElem_map, List.getD_eq_getElem?_getD, List.getElem?_eq_getElem (by omega)]
      rfl
    have ih := incN_steps l d (i + 1) (by omega)
    rw [show lastAt l (i + 1) = ((l.getD i 0 : Nat) : Int) from rfl] at ih
    rw [hd, List.range'_succ, List.all_cons, ← ih]
    refine (show incN 3 (lastAt l i) (((l.getD i 0 : Nat) : Int) :: (l.map fun k : Nat => (k : Int)).drop (i + 1)) = (decide (lastAt l i < ((l.getD i 0 : Nat) : Int)) && (decide (((l.getD i 0 : Nat) : Int) < ((3 : Nat) : Int)) && incN 3 ((l.getD i 0 : Nat) : Int) ((l.map fun k : Nat => (k : Int)).drop (i + 1)))) from rfl).trans ?_
    generalize incN 3 ((l.getD i 0 : Nat) : Int) ((l.map fun k : Nat => (k : Int)).drop (i + 1)) = q
    unfold stepR lastAt
    rw [show decide (((l.getD i 0 : Nat) : Int) < ((3 : Nat) : Int)) = decide (l.getD i 0 < 3) from decide_eq_decide.2 (by omega)]
    by_cases h0 : i = 0
    · rw [if_pos h0, decide_eq_true h0, decide_eq_true (show (-1 : Int) < ((l.getD i 0 : Nat) : Int) by omega), Bool.true_or, Bool.true_and, Bool.and_true]
    · rw [if_neg h0, decide_eq_false h0, Bool.false_or, show decide (((l.getD (i - 1) 0 : Nat) : Int) < ((l.getD i 0 : Nat) : Int)) = decide (l.getD (i - 1) 0 < l.getD i 0) from decide_eq_decide.2 (by omega)]
      cases decide (l.getD (i - 1) 0 < l.getD i 0) <;> cases decide (l.getD i 0 < 3) <;> rfl
theorem ris_inc (l : List Nat) : (decide ((2 : Int) ≤ ((l.map fun k : Nat => (k : Int)).length : Nat)) && incN 3 (-1) (l.map fun k : Nat => (k : Int))) = risB l l.length := by
  have h := incN_steps l l.length 0 (Nat.zero_add _)
  rw [show lastAt l 0 = -1 from rfl, List.drop_zero, ← List.range_eq_range'] at h
  unfold risB
  rw [← h]
  cases hi : incN 3 (-1) (l.map fun k : Nat => (k : Int))
  · rw [Bool.and_false, Bool.and_false]
  · rw [Bool.and_true, Bool.and_true]
    apply decide_eq_decide.2
    rcases incN_few _ _ (Int.le_refl _) hi with h3 | h3
    · rw [List.length_map] at h3 ⊢; omega
    · rw [h3, show l = [] from List.map_eq_nil_iff.1 h3]; decide
end Go.Sha
namespace Go.Proofs.YtkkfaffehbjdgaaGreatDoor
attribute [local irreducible] Go.Vc.Run Go.Vc.RC Go.Vc.RQ Go.Vc.DR Go.Vc.DOp Go.Vc.Knows Go.Vc.At
set_option maxHeartbeats 400000
set_option maxRecDepth 10000
open Go Go.Vc Go.Sha
theorem and2 : ∀ a : Fin 256, IntKind.u8.wrap (2 * IntKind.u8.wrap ((BitVec.ofInt IntKind.u8.bits (a.val : Int) &&& BitVec.ofInt IntKind.u8.bits 1).toNat : Nat)) = ((2 * (a.val % 2) : Nat) : Int) := by decide +kernel
theorem and1 : ∀ a : Fin 256, IntKind.u8.wrap ((BitVec.ofInt IntKind.u8.bits (a.val : Int) &&& BitVec.ofInt IntKind.u8.bits 1).toNat : Nat) = ((a.val % 2 : Nat) : Int) := by decide +kernel
theorem sgn_val (who : List Nat) (bd : Nat) : fitsK ⟨rcF 50, false, CeD.nul⟩ (crtP 0 0 1 [3] who bd) 8 endB.1 = 0 := by
  rw [fits_crt, open_crt (by decide), if_neg (by rintro (q | q); exact absurd q (by decide); exact q rfl), if_neg (fun q => Bool.noConfusion q.1), if_neg (by decide)]
/-- What Check answers. -/
theorem sgn_any (who : List Nat) (bd : Nat) (ss : List Sg) : chkK ⟨rcF 50, false, CeD.nul⟩ (crtP 0 0 1 [3] who bd) 8 endB.1 ss = 0 ∨ chkK ⟨rcF 50, false, CeD.nul⟩ (crtP 0 0 1 [3] who bd) 8 endB.1 ss = 11 ∨ chkK ⟨rcF 50, false, CeD.nul⟩ (crtP 0 0 1 [3] who bd) 8 endB.1 ss = 4 := by
  rw [chkK_may, sgn_val]
  split
  · rw [if_neg (by decide)]
    split
    · exact .inl rfl
    · exact .inr (.inl rfl)
  · exact .inr (.inr rfl)
theorem sgn_ris (who : List Nat) (h : (crtP 0 0 1 [3] who 0).may) : decide (chkK ⟨rcF 50, false, CeD.nul⟩ (crtP 0 0 1 [3] who 0) 8 endB.1 (sgP 0 1 [3] who 0) = 0) = risB who who.length := by
  have h1 := chk_whoN (n := 3) (nd := 2) (m := crtH (crt0 0 0 1 [3])) (who := who.map fun k : Nat => (k : Int)) (fun i hi => by
    rw [List.length_map] at hi
    refine ⟨who[i], ?_⟩
    rw [List.getD_eq_getElem?_getD, List.getElem?_map, List.getElem?_eq_getElem hi]
    rfl) (by decide) (by decide) (by decide) (by decide)
  rw [ris_inc, List.length_map] at h1
  rw [chkK_may, sgn_val, if_pos h, if_neg (by decide)]
  have h2 : chkQ (⟨rcF 50, false, CeD.nul⟩ : Kd).r.ln (⟨rcF 50, false, CeD.nul⟩ : Kd).r.wd (⟨rcF 50, false, CeD.nul⟩ : Kd).r.nd (⟨rcF 50, false, CeD.nul⟩ : Kd).r.keys (crtH (crtP 0 0 1 [3] who 0)) (sgP 0 1 [3] who 0) = risB who who.length := h1
  rw [h2]
  cases risB who who.length
  · rfl
  · rfl
set_option maxRecDepth 10000 in set_option maxHeartbeats 4000000 in
theorem CertSigns_calls (who : List Nat) (hwh : ∀ k ∈ who, k < 256) (bn : Nat) (hbn : bn < 256) (v : Value) (w : World) (hs : SrcW w 1 v who.length (u8s who)) (hK : Laid w) : Gives Tryz.prog 6 [v, .int .u8 bn] (.bool true) w := by
  refine enter Tryz.func6 rfl (Mem.nil w []) rfl ?_
  obtain ⟨va, vc, rfl, hvc⟩ := hs.shape
  refine x_ ?_
  refine Run.op1 (OpTo.cv Tryz.func7 (fun w' hm => c14awake_calls w' (hK.fr hm.fr (by simp)))) (fun _ => ?_)
  by_cases h6 : 6 < who.length
  · refine x_ ?_
    exact RQ.ret1 rfl (Res.tmp rfl) fun w' hm => ⟨rfl, hm.fr⟩
  refine x_ ?_
  refine Run.nw (nbsk (parts := [(0, .const (.int .i64 50))]) #[.int .i64 50]) ?_
  intro b21
  refine x_ ?_
  have hz0 : ([(b21, Obj.cells #[.int .i64 50] 3 (0, 0))] : Hp).Perm ([] ++ [(b21, Obj.cells #[.int .i64 50] 3 (0, 0))]) := List.Perm.refl _
  refine Run.op1 (OpTo.callT Tryz.func8 hz0 (fun w' hm => FillK_calls 50 (by decide) _ w' (SrcW.row (cs := i64L [50]) hm m0 rfl (Nat.le_refl 1)))) ?_
  intro y
  refine x_ ?_
  refine Run.nw (nbsk (parts := [(0, .const (.int .i64 3))]) #[.int .i64 3]) ?_
  intro b31
  refine x_ ?_
  obtain ⟨bd, hbd⟩ : ∃ bd : Nat, bd = 2 * (bn % 2) := ⟨_, rfl⟩
  have hw27 : IntKind.u8.wrap (2 * IntKind.u8.wrap ((BitVec.ofInt IntKind.u8.bits (bn : Int) &&& BitVec.ofInt IntKind.u8.bits 1).toNat : Nat)) = (bd : Int) := by
    rw [hbd]
    exact and2 ⟨bn, hbn⟩
  rw [hw27]
  refine Run.a (vbs (planC 0 0 ((1 : Nat) : Int) (.slice (some ⟨b31, 0, none⟩) 1 1) (.slice va who.length vc) bd).toArray) ?_
  have hMk := fun w' h1 h2 => CMake_calls 0 0 1 (by decide) [3] (by decide) who (by omega) hwh bd (by omega) (.slice (some ⟨b31, 0, none⟩) 1 1) (.slice va who.length vc) w' h1 h2
  refine Run.op1 (OpTo.callD Tryz.func10 (fun w' hm => hMk w' (SrcW.row (cs := i64L [3]) hm m0 rfl (Nat.le_refl 1)) (hs.fr hm.fr))) ?_
  rintro ⟨⟨⟨⟨oa, oc⟩, ⟨sa, sc⟩⟩, bl⟩, _, hk9⟩
  dsimp only at hk9 ⊢
  obtain ⟨c, hc⟩ : ∃ c, c = crtP 0 0 1 [3] who bd := ⟨_, rfl⟩
  obtain ⟨ss, hss⟩ : ∃ ss, ss = sgP 0 1 [3] who bd := ⟨_, rfl⟩
  have hf : CrF c ss 1 who.length := by rw [hc, hss]; exact crF (ams := [3]) 0 1 who bd (by decide)
  have hos := hf.os
  have hsg := hf.sg
  rw [show ceC (crtP 0 0 1 [3] who bd) (.slice oa [(3 : Int)].length oc) (.slice sa who.length sc) = ceC c (.slice oa c.os.length oc) (.slice sa c.sg.length sc) from by rw [hos, hsg, ← hc]; rfl]
  have hF21 : (ceC c (.slice oa c.os.length oc) (.slice sa c.sg.length sc)).toArray.size = 21 := by rw [List.size_toArray, ceC_len]
  have hF1 := ceC_one c oa c.os.length oc sa c.sg.length sc
  have hk' : ∀ w, Has bl w → SrcW w 9 (.slice oa c.os.length oc) c.os.length (rws OutD.c c.os) ∧ SrcW w 282 (.slice sa c.sg.length sc) c.sg.length (rws SgD.c c.sg) := fun w hw => by
    have h := hk9 w hw
    rw [hos, hsg, hc]
    exact h
  clear hk9
  refine x_ ?_
  refine Run.nw nal ?_
  intro b7
  refine x_ ?_
  refine Run.op1 (osa (arr := ti36.zero.cells) (ceC c (.slice oa c.os.length oc) (.slice sa c.sg.length sc)).toArray hF1 (hs := by exact hF21)) (fun _ => ?_)
  refine x_ ?_
  have hxd : y.x.d = ⟨rcF 50, false, CeD.nul⟩ := y.hd
  obtain ⟨hxl, hHL⟩ := rcF_ln hxd (Nat.zero_le _) (Nat.zero_le _)
  obtain ⟨vv, hv⟩ : ∃ vv, vv = chkK ⟨rcF 50, false, CeD.nul⟩ c 8 endB.1 ss := ⟨_, rfl⟩
  have hC1 := fun w' h1 h2 h3 h4 h5 => CheckK_calls y.x hxl hHL c hf.sd hf.am (by omega) (by omega) ss hf.row hf.sl oa oc sa sc 8 endB.1 rfl y.b y.bb y.cap y.rest w' h1 h2 h3 h4 h5
  rw [hxd, ← hv] at hC1
  have hC2 := fun w' h1 h2 h3 => RCheck_calls y.rst y.hr hf (by decide) (by omega) oa oc sa sc 8 endB.1 rfl w' h1 h2 h3
  rw [← hv] at hC2
  have kE : Knows Tryz.prog w 11 [] (.agg (u8s endB.1).toArray) := Knows.mk Tryz.func11 (fun w' _ => End_calls w')
  have hb0 : ∀ {w' : World}, Mem w [] ((b7, Obj.cells (ceC c (.slice oa c.os.length oc) (.slice sa c.sg.length sc)).toArray 36 (0, 0)) :: (bl ++ ((b31, Obj.cells #[.int .i64 3] 3 (0, 0)) :: (y.L ++ [(b21, Obj.cells #[.int .i64 50] 3 (0, 0))])))) w' → Has bl w' ∧ Has (KW y.b y.bb y.cap y.rest y.x) w' ∧ Has y.pool w' ∧ Has y.rst.L w' ∧ Has y.rpool w' := fun hm => by
    have hy : ∀ p ∈ y.L, _ ∈ _ := fun p hp => List.mem_cons_of_mem (b7, Obj.cells (ceC c (.slice oa c.os.length oc) (.slice sa c.sg.length sc)).toArray 36 (0, 0)) (List.mem_append_right bl (List.mem_cons_of_mem (b31, Obj.cells #[.int .i64 3] 3 (0, 0)) (List.mem_append_left [(b21, Obj.cells #[.int .i64 50] 3 (0, 0))] hp)))
    exact ⟨fun p hp => hm.has p (List.mem_cons_of_mem _ (List.mem_append_left _ hp)), fun p hp => hm.has p (hy p (List.mem_append_left _ hp)), fun p hp => hm.has p (hy p (List.mem_append_right _ (List.mem_append_left _ hp))), fun p hp => hm.has p (hy p (List.mem_append_right _ (List.mem_append_right _ (List.mem_append_left _ hp)))), fun p hp => hm.has p (hy p (List.mem_append_right _ (List.mem_append_right _ (List.mem_append_right _ hp))))⟩
  (repeat refine RC.seq ?_); refine RC.draw ([(b7, Obj.cells (ceC c (.slice oa c.os.length oc) (.slice sa c.sg.length sc)).toArray 36 (0, 0))]) mixed (N := 5) rfl ?_
  refine dy 0 ?_
  refine dy 1 ?_
  refine DR.c 2 (DOp.op1 rfl cvK (fun _ => ?_))
  refine DR.c 3 (DOp.op1 rfl (OpTo.cv Tryz.func14 (fun w' hm => hC1 w' (hb0 hm).2.1 (y.hok w' (hb0 hm).2.2.1) (hk' w' (hb0 hm).1).1 (hk' w' (hb0 hm).1).2 (hK.fr hm.fr (by simp)))) (fun _ => ?_))
  refine dy 4 ?_
  refine DR.done (by kernel_rfl) ?_
  refine RQ.next ?_
  refine RC.seq ?_
  refine RC.thenCut (Y := Unit) (fun _ => [(9, .bool (risB who 0)), (8, .int .i64 vv), (7, .pointer (some ⟨b7, 0, none⟩)), (6, .pointer (some ⟨y.rb, 0, none⟩)), (1, .int .u8 bn), (0, .slice va who.length vc)]) (fun _ => (b7, Obj.cells (ceC c (.slice oa c.os.length oc) (.slice sa c.sg.length sc)).toArray 36 (0, 0)) :: (bl ++ ((b31, Obj.cells #[.int .i64 3] 3 (0, 0)) :: (y.L ++ [(b21, Obj.cells #[.int .i64 50] 3 (0, 0))])))) ?_ (fun _ => ?_)
  · by_cases g2 : 2 ≤ who.length
    · refine x_ ?_
      exact RQ.toP () ⟨by
        show some (Value.bool (decide ((who.length : Int) ≤ 3))) = _
        rw [show risB who 0 = decide (2 ≤ who.length ∧ who.length ≤ 3) from Bool.and_true _, show decide ((who.length : Int) ≤ 3) = decide (2 ≤ who.length ∧ who.length ≤ 3) from decide_eq_decide.2 (by omega)], rfl, rfl, rfl, rfl, rfl, trivial⟩ (List.Perm.refl _) (List.Sublist.refl _)
    · refine x_ ?_
      exact RQ.toP () ⟨by
        rw [show risB who 0 = decide (2 ≤ who.length ∧ who.length ≤ 3) from Bool.and_true _, decide_eq_false (show ¬ (2 ≤ who.length ∧ who.length ≤ 3) by omega)]
        rfl, rfl, rfl, rfl, rfl, rfl, trivial⟩ (List.Perm.refl _) (List.Sublist.refl _)
  refine x_ ?_
  refine RC.up who.length (D := Unit) (fun _ _ => True) (fun k _ => [(10, .int .i64 k), (9, .bool (risB who k)), (8, .int .i64 vv), (7, .pointer (some ⟨b7, 0, none⟩)), (6, .pointer (some ⟨y.rb, 0, none⟩)), (1, .int .u8 bn), (0, .slice va who.length vc)]) (fun _ _ => (b7, Obj.cells (ceC c (.slice oa c.os.length oc) (.slice sa c.sg.length sc)).toArray 36 (0, 0)) :: (bl ++ ((b31, Obj.cells #[.int .i64 3] 3 (0, 0)) :: (y.L ++ [(b21, Obj.cells #[.int .i64 50] 3 (0, 0))])))) 0 () (Nat.zero_le _) trivial ⟨rfl, rfl, rfl, rfl, rfl, rfl, rfl, trivial⟩ (List.Sublist.refl _) ?_
  intro k _ hk _
  by_cases hkl : k < who.length
  · obtain ⟨q, hx⟩ : ∃ q, who[k]? = some q := ⟨_, List.getElem?_eq_getElem hkl⟩
    obtain ⟨ad, c', hv', hc', hcl, hr⟩ := hs.pos (by omega)
    cases hv'
    have hq2 := hwh q (List.mem_of_getElem? hx)
    have hqD : who.getD k 0 = q := by rw [List.getD_eq_getElem?_getD, hx]; rfl
    have hcx : w.cell? (ad.add (k * 1)) = some (.int .u8 q) := by
      rw [Nat.mul_one]
      exact hr k _ (by unfold u8s; rw [List.getElem?_map, hx]; rfl)
    have hsc : risB who (k + 1) = (risB who k && (decide (q < 3) && (decide (k = 0) || decide (who.getD (k - 1) 0 < q)))) := by rw [risB_succ]; unfold stepR; rw [hqD]
    cases hrk : risB who k
    · rw [hrk, Bool.false_and] at hsc
      refine x_ ?_
      (repeat refine RC.seq ?_); refine RC.draw ([]) mixed (N := 25) rfl ?_
      refine dy 0 ?_
      refine dy 1 ?_
      refine DR.p 2 rfl ?_
      refine DR.p 3 rfl ?_
      refine DR.p 4 rfl ?_
      refine DR.p 5 rfl ?_
      refine DR.p 6 rfl ?_
      refine dy 7 ?_
      refine dy 8 ?_
      refine DR.p 9 rfl ?_
      refine DR.p 10 rfl ?_
      refine DR.p 11 rfl ?_
      refine DR.p 12 rfl ?_
      refine DR.p 13 rfl ?_
      refine DR.p 14 rfl ?_
      refine DR.p 15 rfl ?_
      refine DR.p 16 rfl ?_
      refine DR.p 17 rfl ?_
      refine DR.p 18 rfl ?_
      refine DR.p 19 rfl ?_
      refine DR.p 20 rfl ?_
      refine DR.p 21 rfl ?_
      refine DR.p 22 rfl ?_
      refine dy 23 ?_
      refine dy 24 ?_
      refine DR.done (by kernel_rfl) ?_
      refine x_ ?_
      exact RQ.upP (k + 1) () (Nat.lt_succ_self _) hkl trivial ⟨rfl, by rw [hsc]; rfl, rfl, rfl, rfl, rfl, rfl, trivial⟩ (List.Perm.refl _) (List.Sublist.refl _)
    by_cases hq3 : q < 3
    rotate_left
    · rw [hrk, decide_eq_false hq3, Bool.false_and, Bool.and_false] at hsc
      refine x_ ?_
      (repeat refine RC.seq ?_); refine RC.draw ([]) mixed (N := 25) rfl ?_
      refine dy 0 ?_
      refine dy 1 ?_
      refine dy 2 ?_
      refine dy 3 ?_
      refine DR.t 4 rfl (vixA) ?_
      refine dy 5 ?_
      refine dy 6 ?_
      refine dy 7 ?_
      refine dy 8 ?_
      refine DR.sF 56 (hb := decide_eq_false (show ¬ (q : Int) < 3 by omega)) ?_
      refine DR.p 9 rfl ?_
      refine DR.p 10 rfl ?_
      refine DR.p 11 rfl ?_
      refine DR.p 12 rfl ?_
      refine DR.p 13 rfl ?_
      refine DR.p 14 rfl ?_
      refine DR.p 15 rfl ?_
      refine DR.p 16 rfl ?_
      refine DR.p 17 rfl ?_
      refine DR.p 18 rfl ?_
      refine DR.p 19 rfl ?_
      refine DR.p 20 rfl ?_
      refine DR.p 21 rfl ?_
      refine DR.p 22 rfl ?_
      refine dy 23 ?_
      refine dy 24 ?_
      refine DR.done (by kernel_rfl) ?_
      refine x_ ?_
      exact RQ.upP (k + 1) () (Nat.lt_succ_self _) hkl trivial ⟨rfl, by rw [hsc]; rfl, rfl, rfl, rfl, rfl, rfl, trivial⟩ (List.Perm.refl _) (List.Sublist.refl _)
    by_cases hk0 : k = 0
    · rw [hrk, decide_eq_true hq3, decide_eq_true hk0, Bool.true_or, Bool.and_true, Bool.and_true] at hsc
      refine x_ ?_
      (repeat refine RC.seq ?_); refine RC.draw ([]) mixed (N := 25) rfl ?_
      refine dy 0 ?_
      refine dy 1 ?_
      refine dy 2 ?_
      refine dy 3 ?_
      refine DR.t 4 rfl (vixA) ?_
      refine dy 5 ?_
      refine dy 6 ?_
      refine dy 7 ?_
      refine dy 8 ?_
      refine DR.sT 56 ?_
      refine dy 9 ?_
      refine dy 10 ?_
      refine dy 11 ?_
      refine DR.p 12 rfl ?_
      refine DR.p 13 rfl ?_
      refine DR.p 14 rfl ?_
      refine DR.p 15 rfl ?_
      refine DR.p 16 rfl ?_
      refine DR.p 17 rfl ?_
      refine DR.p 18 rfl ?_
      refine DR.p 19 rfl ?_
      refine DR.p 20 rfl ?_
      refine DR.p 21 rfl ?_
      refine dy 22 ?_
      refine dy 23 ?_
      refine dy 24 ?_
      refine DR.done (by kernel_rfl) ?_
      refine x_ ?_
      exact RQ.upP (k + 1) () (Nat.lt_succ_self _) hkl trivial ⟨rfl, by rw [hsc]; rfl, rfl, rfl, rfl, rfl, rfl, trivial⟩ (List.Perm.refl _) (List.Sublist.refl _)
    obtain ⟨q', hx'⟩ : ∃ q', who[k - 1]? = some q' := ⟨_, List.getElem?_eq_getElem (by omega)⟩
    have hq2' := hwh q' (List.mem_of_getElem? hx')
    have hqD' : who.getD (k - 1) 0 = q' := by rw [List.getD_eq_getElem?_getD, hx']; rfl
    have hcy : w.cell? (ad.add ((k - 1) * 1)) = some (.int .u8 q') := by
      rw [Nat.mul_one]
      exact hr (k - 1) _ (by unfold u8s; rw [List.getElem?_map, hx']; rfl)
    rw [hrk, decide_eq_true hq3, decide_eq_false hk0, hqD', Bool.false_or, Bool.true_and, Bool.true_and] at hsc
    refine x_ ?_
    (repeat refine RC.seq ?_); refine RC.draw ([]) mixed (N := 25) rfl ?_
    refine dy 0 ?_
    refine dy 1 ?_
    refine dy 2 ?_
    refine dy 3 ?_
    refine DR.t 4 rfl (vixA) ?_
    refine dy 5 ?_
    refine dy 6 ?_
    refine dy 7 ?_
    refine dy 8 ?_
    refine DR.sT 56 ?_
    refine dy 9 ?_
    refine dy 10 ?_
    refine dy 11 ?_
    refine dy 12 ?_
    refine dy 13 ?_
    refine DR.t 14 rfl (vixA) ?_
    refine dy 15 ?_
    refine dy 16 ?_
    refine dy 17 ?_
    refine dy 18 ?_
    refine DR.t 19 rfl (vixA (j := k - 1) (hz := by omega) (hj := by omega)) ?_
    refine dy 20 ?_
    refine dy 21 ?_
    refine dy 22 ?_
    refine dy 23 ?_
    refine dy 24 ?_
    refine DR.done (by kernel_rfl) ?_
    refine x_ ?_
    exact RQ.upP (k + 1) () (Nat.lt_succ_self _) hkl trivial ⟨rfl, by rw [hsc, show decide (q' < q) = decide ((q : Int) > (q' : Int)) from decide_eq_decide.2 (by omega)]; rfl, rfl, rfl, rfl, rfl, rfl, trivial⟩ (List.Perm.refl _) (List.Sublist.refl _)
  obtain rfl : k = who.length := by omega
  refine x_ ?_
  have hb0' : ∀ {w' : World}, Mem w [] ((b7, Obj.cells (ceC c (.slice oa c.os.length oc) (.slice sa c.sg.length sc)).toArray 36 (0, 0)) :: (bl ++ ((b31, Obj.cells #[.int .i64 3] 3 (0, 0)) :: (y.L ++ [(b21, Obj.cells #[.int .i64 50] 3 (0, 0))])))) w' → StW 63 w' y.rb y.rst.v y.rst.l ∧ SrcW w' 9 (.slice oa c.os.length oc) c.os.length (rws OutD.c c.os) ∧ SrcW w' 282 (.slice sa c.sg.length sc) c.sg.length (rws SgD.c c.sg) := fun hm => ⟨y.rst.w (hb0 hm).2.2.2.1 (hb0 hm).2.2.2.2, hk' _ (hb0 hm).1⟩
  (repeat refine RC.seq ?_); refine RC.draw ([(b7, Obj.cells (ceC c (.slice oa c.os.length oc) (.slice sa c.sg.length sc)).toArray 36 (0, 0))]) mixed (N := 6) rfl ?_
  refine dy 0 ?_
  refine dy 1 ?_
  refine dy 2 ?_
  refine DR.c 3 (DOp.op1 rfl cvK (fun _ => ?_))
  refine DR.c 4 (DOp.op1 rfl (OpTo.cv Tryz.func15 (fun w' hm => hC2 w' (hb0' hm).1 (hb0' hm).2.1 (hb0' hm).2.2)) (fun _ => ?_))
  refine dy 5 ?_
  refine DR.done (by kernel_rfl) ?_
  have hv3 : vv = 0 ∨ vv = 11 ∨ vv = 4 := by rw [hv, hc]; exact sgn_any who bd ss
  refine x_ ?_
  rw [show IntKind.u8.wrap ((BitVec.ofInt IntKind.u8.bits (bn : Int) &&& BitVec.ofInt IntKind.u8.bits 1).toNat : Nat) = ((bn % 2 : Nat) : Int) from and1 ⟨bn, hbn⟩]
  by_cases hb2 : bn % 2 = 0
  · rw [show ((((bn % 2 : Nat) : Int)) == 0) = true from by rw [hb2]; rfl]
    rw [show bd = 0 by omega] at hc hss
    refine x_ ?_
    refine Run.opG (Wanted.guard rfl rfl rfl rfl) (OpTo.cv Tryz.func16 (fun w' hm => RMayCert_calls c (by omega) (by omega) (.slice oa c.os.length oc) sa sc w' (hb0' hm).2.1 (hb0' hm).2.2)) (fun _ => ?_)
    by_cases hmy : c.may
    · have hri : decide (vv = 0) = risB who who.length := by rw [hv, hc, hss]; exact sgn_ris who (by rw [← hc]; exact hmy)
      rw [decide_eq_true hmy]
      refine x_ ?_
      refine Run.a (Val.eq (Val.eqBool tabOk rfl rfl rfl rfl rfl) (show _ = Value.bool true from by rw [← hri, show (vv == 0) = decide (vv = 0) from rfl]; cases decide (vv = 0) <;> rfl)) ?_
      refine x_ ?_
      exact RQ.ret1 rfl (Res.tmp rfl) fun w' hm => ⟨rfl, hm.fr⟩
    · rw [decide_eq_false hmy]
      rcases hv3 with rfl | rfl | rfl
      all_goals
        refine x_ ?_
        exact RQ.ret1 rfl (Res.tmp rfl) fun w' hm => ⟨rfl, hm.fr⟩
  · rw [show ((((bn % 2 : Nat) : Int)) == 0) = false from by rw [show bn % 2 = 1 by omega]; rfl]
    rcases hv3 with rfl | rfl | rfl
    all_goals
      refine x_ ?_
      exact RQ.ret1 rfl (Res.tmp rfl) fun w' hm => ⟨rfl, hm.fr⟩
end Go.Proofs.YtkkfaffehbjdgaaGreatDoor
end
