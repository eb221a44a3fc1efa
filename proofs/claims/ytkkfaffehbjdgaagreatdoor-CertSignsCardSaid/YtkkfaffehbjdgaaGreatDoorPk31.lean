/- Lemmas. -/
import Derived.Test.YtkkfaffehbjdgaaGreatDoorPk30
set_option linter.unusedSimpArgs false
set_option linter.unusedVariables false
section
/- cert: what is wrong with a certificate: fits. -/
namespace Go.Proofs.YtkkfaffehbjdgaaGreatDoor
attribute [local irreducible] Go.Vc.Run Go.Vc.RC Go.Vc.RQ Go.Vc.DR Go.Vc.DOp Go.Vc.Knows Go.Vc.At
set_option maxHeartbeats 400000
set_option maxRecDepth 10000
open Go Go.Vc Go.Sha
/-- What is wrong with it, but for its signatures. -/
def fitsK (d : Kd) (c : CeD) (h : Int) (e : List Nat) : Int :=
  if d.r.ce = true then 14
  else if openB d.r.made d.r.ln d.r.wd c.ep h = false ∨ c.en.1 ≠ e then 9
  else if d.pend = true ∧ c.ql ≤ d.c.ql then 10
  else if d.r.bal < payS c then 5
  else 0
theorem kd_r5 (d : Kd) (kv ov sv uv : Value) : rdAt ti3 (kdC d kv ov sv uv).toArray 5 = some (.int .i64 d.r.bal) := rd_one rfl rfl
theorem kd_r9 (d : Kd) (kv ov sv uv : Value) : rdAt ti4 (kdC d kv ov sv uv).toArray 9 = some (.bool d.r.ce) := rd_one rfl rfl
theorem kd_r19 (d : Kd) (kv ov sv uv : Value) : rdAt ti4 (kdC d kv ov sv uv).toArray 19 = some (.bool d.pend) := rd_one rfl rfl
theorem kd_r22 (d : Kd) (kv ov sv uv : Value) : rdAt ti3 (kdC d kv ov sv uv).toArray 22 = some (.int .i64 d.c.ql) := rd_one rfl rfl
theorem ce_r1 (c : CeD) (u v : Value) : rdAt ti3 (ceC c u v).toArray 1 = some (.int .i64 c.ep) := rd_one rfl rfl
theorem ce_r2 (c : CeD) (u v : Value) : rdAt ti3 (ceC c u v).toArray 2 = some (.int .i64 c.ql) := rd_one rfl rfl
theorem ce_r3 (c : CeD) (u v : Value) : rdAt ti32 (ceC c u v).toArray 3 = some (.agg (u8s c.en.1).toArray) := rd_mid (pre := [.int .i64 c.sd, .int .i64 c.ep, .int .i64 c.ql]) (cs := u8s c.en.1) (post := u8s c.ro.1 ++ [u, v]) rfl rfl (by rw [u8s_len, c.en.2.1]; rfl) (by decide) rfl
theorem kdC_side (d : Kd) (kv ov sv uv : Value) : ∃ rest, rest.length = 37 ∧ kdC d kv ov sv uv = sideC d.r.ln d.r.wd d.r.nd kv d.r.made rest := by
  have h := kdC_len d kv ov sv uv
  unfold kdC kd39 sideC at h ⊢
  refine ⟨([.int .i64 d.r.bal, .int .i64 d.r.fwd, .int .i64 0, .int .i64 0, .bool d.r.ce, .int .i64 d.r.at_] ++ (u8s (List.replicate 8 0) ++ (.bool d.pend :: .int .i64 d.c.sd :: .int .i64 d.c.ep :: .int .i64 d.c.ql :: (u8s d.c.en.1 ++ u8s d.c.ro.1)))) ++ [ov, sv, uv], ?_, ?_⟩
  · rw [List.append_assoc, List.length_append, List.cons_append, List.length_cons] at h
    have : (prm d.r.ln d.r.wd d.r.nd kv).length = 4 := rfl
    omega
  · rw [List.append_assoc, List.cons_append]
set_option maxRecDepth 10000 in set_option maxHeartbeats 4000000 in
theorem Fits_calls (x : KX) (c : CeD) (hl : ∀ o ∈ c.os, 0 ≤ o.am ∧ o.am ≤ 100000) (hn : c.os.length ≤ 64) (aA : Option Addr) (cA : Nat) (vS : Value) (h : Int) (e : List Nat) (he8 : e.length = 8) (w : World) (ho : SrcW w 9 (.slice aA c.os.length cA) c.os.length (rws OutD.c c.os)) :
    Gives Tryz.prog 31 [.agg x.c.toArray, .agg (ceC c (.slice aA c.os.length cA) vS).toArray, .int .i64 h, .agg (u8s e).toArray] (.int .i64 (fitsK x.d c h e)) w := by
  refine enter Tryz.func31 rfl (Mem.nil w []) rfl ?_
  have kS : Knows Tryz.prog w 13 [.agg (ceC c (.slice aA c.os.length cA) vS).toArray] (.tuple #[.int .i64 (payS c), .bool true]) := Knows.mk Tryz.func13 (fun w' hf => CSum_calls c hl hn aA cA vS w' (ho.fr hf))
  have kO : Knows Tryz.prog w 58 [.agg x.c.toArray, .int .i64 c.ep, .int .i64 h] (.bool (openB x.d.r.made x.d.r.ln x.d.r.wd c.ep h)) := by
    obtain ⟨rest, hr, hx⟩ := kdC_side x.d (.slice x.kv.1 x.d.r.keys.length x.kv.2) (.slice x.ov.1 x.d.c.os.length x.ov.2) (.slice x.sv.1 x.d.c.sg.length x.sv.2) (.slice x.uv.1 x.d.r.used.length x.uv.2)
    unfold KX.c
    rw [hx]
    exact Knows.mk Tryz.func58 (fun w' _ => Open_calls _ _ _ _ _ _ hr rfl _ _ w')
  have r5 : rdAt ti3 x.c.toArray 5 = some (.int .i64 x.d.r.bal) := kd_r5 _ _ _ _ _
  have r9 : rdAt ti4 x.c.toArray 9 = some (.bool x.d.r.ce) := kd_r9 _ _ _ _ _
  have r19 : rdAt ti4 x.c.toArray 19 = some (.bool x.d.pend) := kd_r19 _ _ _ _ _
  have r22 : rdAt ti3 x.c.toArray 22 = some (.int .i64 x.d.c.ql) := kd_r22 _ _ _ _ _
  have c1 := ce_r1 c (.slice aA c.os.length cA) vS
  have c2 := ce_r2 c (.slice aA c.os.length cA) vS
  have c3 := ce_r3 c (.slice aA c.os.length cA) vS
  have hx42 : x.c.toArray.size = 42 := by rw [List.size_toArray, x.len]
  have hc21 : (ceC c (.slice aA c.os.length cA) vS).toArray.size = 21 := by rw [List.size_toArray, ceC_len]
  have he : (u8s e).toArray.size = 8 := by rw [List.size_toArray, u8s_len, he8]
  generalize x.c = X at kO r5 r9 r19 r22 hx42 ⊢
  generalize ceC c (.slice aA c.os.length cA) vS = F at kS c1 c2 c3 hc21 ⊢
  obtain ⟨fv, hfv⟩ : ∃ fv, fv = fitsK x.d c h e := ⟨_, rfl⟩
  rw [← hfv]
  unfold fitsK at hfv
  refine z_ ?_
  refine Run.nw nbx ?_
  intro b4
  refine z_ ?_
  refine Run.nw nbx ?_
  intro b5
  refine z_ ?_
  refine Run.nw nbx ?_
  intro b7
  cases hce : x.d.r.ce
  rotate_left
  · rw [hce] at r9 hfv
    rw [if_pos rfl] at hfv
    subst hfv
    refine x_ ?_
    exact RQ.ret1 rfl (Res.tmp rfl) fun w' hm => ⟨rfl, hm.fr⟩
  rw [hce] at r9 hfv
  rw [if_neg (by decide)] at hfv
  cases hop : openB x.d.r.made x.d.r.ln x.d.r.wd c.ep h
  · rw [hop] at kO hfv
    rw [if_pos (.inl rfl)] at hfv
    subst hfv
    refine x_ ?_
    exact RQ.ret1 rfl (Res.tmp rfl) fun w' hm => ⟨rfl, hm.fr⟩
  rw [hop] at kO hfv
  by_cases heq : c.en.1 = e
  rotate_left
  · rw [if_pos (.inr heq)] at hfv
    subst hfv
    refine x_ ?_
    refine Run.a (Val.eq (Val.neU (m := 8) (a := c.en.1) (b := e) tabOk rfl rfl rfl (by kernel_rfl) (by kernel_rfl) rfl rfl c.en.2.1 he8) (show _ = Value.bool true from by rw [decide_eq_false heq]; rfl)) ?_
    refine x_ ?_
    exact RQ.ret1 rfl (Res.tmp rfl) fun w' hm => ⟨rfl, hm.fr⟩
  rw [if_neg (by rintro (q | q); cases q; exact q heq)] at hfv
  refine x_ ?_
  refine Run.a (Val.eq (Val.neU (m := 8) (a := c.en.1) (b := e) tabOk rfl rfl rfl (by kernel_rfl) (by kernel_rfl) rfl rfl c.en.2.1 he8) (show _ = Value.bool false from by rw [decide_eq_true heq]; rfl)) ?_
  by_cases hpq : x.d.pend = true ∧ c.ql ≤ x.d.c.ql
  · rw [if_pos hpq] at hfv
    subst hfv
    obtain ⟨hp, hq⟩ := hpq
    rw [hp] at r19
    refine x_ ?_
    exact RQ.ret1 rfl (Res.tmp rfl) fun w' hm => ⟨rfl, hm.fr⟩
  rw [if_neg hpq] at hfv
  by_cases hb : x.d.r.bal < payS c
  · rw [if_pos hb] at hfv
    subst hfv
    cases hp : x.d.pend
    · rw [hp] at r19
      refine x_ ?_
      exact RQ.ret1 rfl (Res.tmp rfl) fun w' hm => ⟨rfl, hm.fr⟩
    · have hq : ¬ c.ql ≤ x.d.c.ql := fun q => hpq ⟨hp, q⟩
      rw [hp] at r19
      refine x_ ?_
      exact RQ.ret1 rfl (Res.tmp rfl) fun w' hm => ⟨rfl, hm.fr⟩
  · rw [if_neg hb] at hfv
    subst hfv
    cases hp : x.d.pend
    · rw [hp] at r19
      refine x_ ?_
      exact RQ.ret1 rfl (Res.tmp rfl) fun w' hm => ⟨rfl, hm.fr⟩
    · have hq : ¬ c.ql ≤ x.d.c.ql := fun q => hpq ⟨hp, q⟩
      rw [hp] at r19
      refine x_ ?_
      exact RQ.ret1 rfl (Res.tmp rfl) fun w' hm => ⟨rfl, hm.fr⟩
end Go.Proofs.YtkkfaffehbjdgaaGreatDoor
end
section
/- cert: Check. -/
namespace Go.Proofs.YtkkfaffehbjdgaaGreatDoor
attribute [local irreducible] Go.Vc.Run Go.Vc.RC Go.Vc.RQ Go.Vc.DR Go.Vc.DOp Go.Vc.Knows Go.Vc.At
set_option maxHeartbeats 400000
set_option maxRecDepth 10000
open Go Go.Vc Go.Sha
noncomputable def chkK (d : Kd) (c : CeD) (h : Int) (e : List Nat) (ss : List Sg) : Int :=
  if TxMay (crtT c) ∧ TxMay (tCert c) then (if fitsK d c h e ≠ 0 then fitsK d c h e else if chkQ d.r.ln d.r.wd d.r.nd d.r.keys (crtH c) ss = true then 0 else 11) else 4
theorem cert_fill (c : CeD) (aA : Option Addr) (cA : Nat) (aS : Option Addr) (cS : Nat) : Instr.fill (fun i => ([(0, 1), (1, 1), (2, 1), (3, 1), (4, 1), (5, 4), (9, 21), (30, 140)] : List (Nat × Nat))[i]?) ti92.zero.cells [(0, .int .i64 4), (6, .agg (ceC c (.slice aA c.os.length cA) (.slice aS c.sg.length cS)).toArray)] = some (txC (tCert c) (TxV.z.mC aA cA aS cS)).toArray := by
  have h21 : (Value.agg (ceC c (.slice aA c.os.length cA) (.slice aS c.sg.length cS)).toArray).cells.size = 21 := by
    show (ceC _ _ _).toArray.size = 21
    rw [List.size_toArray, ceC_len]
  rw [fill_step (off := 0) rfl (by decide), tx_zero']
  rw [show wrAt (txC (TxD.nul 0) TxV.z).toArray 0 (Value.int .i64 4).cells.toList = (txC (TxD.nul 4) TxV.z).toArray from rfl]
  rw [fill_step (off := 9) (by rw [h21]; rfl) (by rw [h21, List.size_toArray, txC_len]; decide)]
  exact congrArg some (tx_w9 (TxD.nul 4) TxV.z c aA cA aS cS)
theorem kd_r0 (d : Kd) (kv ov sv uv : Value) : rdAt ti43 (kdC d kv ov sv uv).toArray 0 = some (.agg (prm d.r.ln d.r.wd d.r.nd kv).toArray) := by
  obtain ⟨rest, hr, hx⟩ := kdC_side d kv ov sv uv
  rw [hx]
  exact rd_mid (pre := []) (cs := prm d.r.ln d.r.wd d.r.nd kv) (post := .int .i64 d.r.made :: rest) rfl rfl rfl (by decide) rfl
theorem ce_r20' (c : CeD) (u v : Value) : rdAt ti34 (ceC c u v).toArray 20 = some v := rd_one rfl (at_mid (pre := .int .i64 c.sd :: .int .i64 c.ep :: .int .i64 c.ql :: (u8s c.en.1 ++ (u8s c.ro.1 ++ [u]))) (post := []) (by unfold ceC; simp only [List.cons_append, List.append_assoc, List.nil_append]) (by simp only [List.length_cons, List.length_append, List.length_nil, u8s_len, c.en.2.1, c.ro.2.1]))
set_option maxRecDepth 10000 in set_option maxHeartbeats 4000000 in
theorem CheckK_calls (x : KX) (hx : x.ln) (hH : HL x.d.r.keys) (c : CeD) (hsd : c.sd = 0) (hl : ∀ o ∈ c.os, 0 ≤ o.am ∧ o.am ≤ 100000) (hn : c.os.length ≤ 64) (hg : c.sg.length ≤ 64) (ss : List Sg) (hss : rws SgD.c c.sg = rowSg ss) (hsl : c.sg.length = ss.length) (aA : Option Addr) (cA : Nat) (aS : Option Addr) (cS : Nat) (h : Int) (e : List Nat) (he8 : e.length = 8) (sb b cap : Nat) (rest : List Value) (w : World)
    (hw : Has (KW sb b cap rest x) w) (hok : x.ok w) (ho : SrcW w 9 (.slice aA c.os.length cA) c.os.length (rws OutD.c c.os)) (hs : SrcW w 282 (.slice aS c.sg.length cS) c.sg.length (rws SgD.c c.sg)) (hK : Laid w) :
    Gives Tryz.prog 14 [.pointer (some ⟨sb, 0, none⟩), .agg (ceC c (.slice aA c.os.length cA) (.slice aS c.sg.length cS)).toArray, .int .i64 h, .agg (u8s e).toArray] (.int .i64 (chkK x.d c h e ss)) w := by
  refine enter Tryz.func14 rfl (Mem.nil w []) rfl ?_
  have hln : TxLn (tCert c) := ⟨Nat.zero_le _, Nat.zero_le _, Nat.zero_le _, Nat.zero_le _, by show c.os.length ≤ 4096; omega, by show c.sg.length ≤ 4096; omega⟩
  have kM : Knows Tryz.prog w 29 [.agg (ceC c (.slice aA c.os.length cA) (.slice aS c.sg.length cS)).toArray] (.tuple #[.agg (u8s (crtH c)).toArray, .bool (decide (TxMay (crtT c)))]) := Knows.mk Tryz.func29 (fun w' hf => TCertM_calls c aA cA aS c.sg.length cS (by omega) w' (ho.fr hf) (hK.fr hf (by simp)))
  have kT : Knows Tryz.prog w 30 [.agg (txC (tCert c) (TxV.z.mC aA cA aS cS)).toArray] (.bool (decide (TxMay (tCert c)))) := Knows.mk Tryz.func30 (fun w' hf => TMay_calls (tCert c) (TxV.z.mC aA cA aS cS) hln w' ⟨.nil, .nil, .nil, .nil, ho.fr hf, hs.fr hf⟩)
  have hSd := fun w' (hf : Fr [] w w') => SideK_calls x hx sb b cap rest w' (hw.fr hf) (hok.fr hf)
  have hFt := fun (y : KX) w' (hf : Fr [] w w') => Fits_calls y c hl hn aA cA (.slice aS c.sg.length cS) h e he8 w' (ho.fr hf)
  have hfl := cert_fill c aA cA aS cS
  have c0 : rdAt ti3 (ceC c (.slice aA c.os.length cA) (.slice aS c.sg.length cS)).toArray 0 = some (.int .i64 0) := by rw [← hsd]; exact rd_one rfl rfl
  have c20 := ce_r20' c (.slice aA c.os.length cA) (.slice aS c.sg.length cS)
  have hc21 : (ceC c (.slice aA c.os.length cA) (.slice aS c.sg.length cS)).toArray.size = 21 := by rw [List.size_toArray, ceC_len]
  have he : (u8s e).toArray.size = 8 := by rw [List.size_toArray, u8s_len, he8]
  have m8 : (crtH c).length = 8 := dgH_len _ _ _
  have mb : ∀ z ∈ crtH c, z < 256 := by
    unfold crtH dgH
    split
    · exact digest_lt _ _
    · intro z hz; rw [(List.mem_replicate.1 hz).2]; decide
  have hMs : (u8s (crtH c)).toArray.size = 8 := by rw [List.size_toArray, u8s_len, m8]
  have hQ := fun (y : KX) (hd : y.d = x.d) w' (hf : Fr [] w w') (hy : y.ok w') => qCheck_calls x.d.r.ln x.d.r.wd x.d.r.nd x.d.r.keys hH (by have := hx.k; omega) (crtH c) m8 mb ss (by omega) (.slice y.kv.1 x.d.r.keys.length y.kv.2) (.slice aS c.sg.length cS) w' (by have := hy.k; rw [hd] at this; exact this) (by have := hs.fr hf; rw [hss, hsl] at this; rw [hsl]; exact this) (hK.fr hf (by simp))
  generalize ceC c (.slice aA c.os.length cA) (.slice aS c.sg.length cS) = F at kM hFt hfl c0 c20 hc21 ⊢
  generalize txC (tCert c) (TxV.z.mC aA cA aS cS) = G at kT hfl
  obtain ⟨fv, hfv⟩ : ∃ fv, fv = chkK x.d c h e ss := ⟨_, rfl⟩
  rw [← hfv]
  unfold chkK at hfv
  obtain ⟨M, hM⟩ : ∃ M, M = crtH c := ⟨_, rfl⟩
  rw [← hM] at kM m8 mb hMs hQ hfv
  refine z_ ?_
  refine Run.nw nbx ?_
  intro b5
  refine z_ ?_
  refine Run.nw nbx ?_
  intro b7
  refine x_ ?_
  refine Run.nw nal ?_
  intro b9
  refine x_ ?_
  refine Run.op1 (osa (arr := ti32.zero.cells) (e := 32) (L' := [(b7, Obj.cells (u8s e).toArray 32 (0, 0)), (b5, Obj.cells F.toArray 36 (0, 0))]) (u8s M).toArray (u8s_one M) (hL := (perm_of fun f => by (simp only [List.map_append, List.map_cons, List.map_nil, List.sum_append, List.sum_cons, List.sum_nil] <;> omega))) (hs := by exact hMs)) (fun _ => ?_)
  by_cases h1 : TxMay (crtT c)
  rotate_left
  · rw [if_neg (fun q => h1 q.1)] at hfv
    subst hfv
    rw [decide_eq_false h1]
    refine x_ ?_
    exact RQ.ret1 rfl (Res.tmp rfl) fun w' hm => ⟨rfl, hm.fr⟩
  rw [decide_eq_true h1]
  refine x_ ?_
  refine Run.a (vbs G.toArray (hf := by exact hfl)) ?_
  by_cases h2 : TxMay (tCert c)
  rotate_left
  · rw [if_neg (fun q => h2 q.2)] at hfv
    subst hfv
    rw [decide_eq_false h2] at kT
    refine x_ ?_
    exact RQ.ret1 rfl (Res.tmp rfl) fun w' hm => ⟨rfl, hm.fr⟩
  rw [decide_eq_true h2] at kT
  rw [if_pos ⟨h1, h2⟩] at hfv
  refine x_ ?_
  refine Run.op1 (OpTo.callD Tryz.func12 (fun w' hm => hSd w' hm.fr)) ?_
  rintro ⟨⟨y, bl⟩, hd, hk⟩
  dsimp only at hd hk ⊢
  have hy42 : y.c.toArray.size = 42 := by rw [List.size_toArray, y.len]
  have y1 := y.one
  have r0 : rdAt ti43 y.c.toArray 0 = some (.agg (prm x.d.r.ln x.d.r.wd x.d.r.nd (.slice y.kv.1 x.d.r.keys.length y.kv.2)).toArray) := by
    have := kd_r0 y.d (.slice y.kv.1 y.d.r.keys.length y.kv.2) (.slice y.ov.1 y.d.c.os.length y.ov.2) (.slice y.sv.1 y.d.c.sg.length y.sv.2) (.slice y.uv.1 y.d.r.used.length y.uv.2)
    rw [← hd]
    exact this
  have hFy := hFt y
  rw [hd] at hFy
  have hQy := hQ y hd
  generalize y.c = Y at hy42 y1 r0 hFy ⊢
  refine x_ ?_
  refine Run.nw nal ?_
  intro b11
  refine x_ ?_
  refine Run.op1 (osa (arr := ti45.zero.cells) (e := 45) (L' := bl ++ [(b9, Obj.cells (u8s M).toArray 32 (0, 0)), (b7, Obj.cells (u8s e).toArray 32 (0, 0)), (b5, Obj.cells F.toArray 36 (0, 0))]) Y.toArray y1 (hL := (perm_of fun f => by (simp only [List.map_append, List.map_cons, List.map_nil, List.sum_append, List.sum_cons, List.sum_nil] <;> omega))) (hs := by exact hy42)) (fun _ => ?_)
  refine x_ ?_
  refine Run.op1 (OpTo.cv Tryz.func31 (fun w' hm => hFy w' hm.fr)) (fun _ => ?_)
  by_cases hf : fitsK x.d c h e ≠ 0
  · rw [if_pos hf] at hfv
    subst hfv
    refine x_ ?_
    exact RQ.ret1 rfl (Res.tmp rfl) fun w' hm => ⟨rfl, hm.fr⟩
  rw [if_neg hf] at hfv
  rw [Decidable.not_not.1 hf]
  refine x_ ?_
  refine Run.op1 (OpTo.cv Tryz.func32 (fun w' hm => hQy w' hm.fr (hk w' (fun q hq => hm.has q (List.mem_cons_of_mem _ (List.mem_append_left _ hq)))))) (fun _ => ?_)
  cases hq : chkQ x.d.r.ln x.d.r.wd x.d.r.nd x.d.r.keys M ss
  · rw [hq] at hfv
    rw [if_neg (by decide)] at hfv
    subst hfv
    refine x_ ?_
    exact RQ.ret1 rfl (Res.tmp rfl) fun w' hm => ⟨rfl, hm.fr⟩
  · rw [hq] at hfv
    rw [if_pos rfl] at hfv
    subst hfv
    refine x_ ?_
    exact RQ.ret1 rfl (Res.tmp rfl) fun w' hm => ⟨rfl, hm.fr⟩
end Go.Proofs.YtkkfaffehbjdgaaGreatDoor
end
section
/- cert: Take. -/
namespace Go.Proofs.YtkkfaffehbjdgaaGreatDoor
attribute [local irreducible] Go.Vc.Run Go.Vc.RC Go.Vc.RQ Go.Vc.DR Go.Vc.DOp Go.Vc.Knows Go.Vc.At
set_option maxHeartbeats 400000
set_option maxRecDepth 10000
open Go Go.Vc Go.Sha
theorem kd_w19 (d : Kd) (kv ov sv uv : Value) (p : Bool) : wrAt (kdC d kv ov sv uv).toArray 19 [.bool p] = (kdC { d with pend := p } kv ov sv uv).toArray := rfl
theorem kd_w20 (d : Kd) (c : CeD) (kv ov sv uv u v : Value) : wrAt (kdC d kv ov sv uv).toArray 20 (ceC c u v) = (kdC { d with c := c } kv u v uv).toArray := by
  refine wr_at' (pre := sideC d.r.ln d.r.wd d.r.nd kv d.r.made ([.int .i64 d.r.bal, .int .i64 d.r.fwd, .int .i64 0, .int .i64 0, .bool d.r.ce, .int .i64 d.r.at_] ++ (u8s (List.replicate 8 0) ++ [.bool d.pend]))) (old := ceC d.c ov sv) (new := ceC c u v) (post := [uv]) (kdC_cert d kv ov sv uv) (kdC_cert { d with c := c } kv u v uv) (by rw [ceC_len, ceC_len]) rfl
theorem one_b' (z : Bool) : ∀ u ∈ (Value.bool z).cells.toList, u.oneCell' = true := by
  intro u hu
  simp only [Value.cells, List.mem_cons, List.not_mem_nil, or_false] at hu
  subst hu; rfl
section
variable (x : KX) (hx : x.ln) (hH : HL x.d.r.keys) (c : CeD) (hsd : c.sd = 0) (hl : ∀ o ∈ c.os, 0 ≤ o.am ∧ o.am ≤ 100000) (hn : c.os.length ≤ 64) (hg : c.sg.length ≤ 64) (ss : List Sg) (hss : rws SgD.c c.sg = rowSg ss) (hsl : c.sg.length = ss.length) (aA : Option Addr) (cA : Nat) (aS : Option Addr) (cS : Nat) (h : Int) (e : List Nat) (he8 : e.length = 8) (sb b cap : Nat) (rest : List Value) (w : World)
include hx hH hsd hl hn hg hss hsl he8
theorem TakeK_no (hv : chkK x.d c h e ss ≠ 0) (hw : Has (KW sb b cap rest x) w) (hok : x.ok w) (ho : SrcW w 9 (.slice aA c.os.length cA) c.os.length (rws OutD.c c.os)) (hs : SrcW w 282 (.slice aS c.sg.length cS) c.sg.length (rws SgD.c c.sg)) (hK : Laid w) :
    Gives Tryz.prog 9 [.pointer (some ⟨sb, 0, none⟩), .agg (ceC c (.slice aA c.os.length cA) (.slice aS c.sg.length cS)).toArray, .int .i64 h, .agg (u8s e).toArray] (.int .i64 (chkK x.d c h e ss)) w := by
  refine enter Tryz.func9 rfl (Mem.nil w []) rfl ?_
  have kC : Knows Tryz.prog w 14 [.pointer (some ⟨sb, 0, none⟩), .agg (ceC c (.slice aA c.os.length cA) (.slice aS c.sg.length cS)).toArray, .int .i64 h, .agg (u8s e).toArray] (.int .i64 (chkK x.d c h e ss)) := Knows.mk Tryz.func14 (fun w' hf => CheckK_calls x hx hH c hsd hl hn hg ss hss hsl aA cA aS cS h e he8 sb b cap rest w' (hw.fr hf) (hok.fr hf) (ho.fr hf) (hs.fr hf) (hK.fr hf (by simp)))
  have hc21 : (ceC c (.slice aA c.os.length cA) (.slice aS c.sg.length cS)).toArray.size = 21 := by rw [List.size_toArray, ceC_len]
  have he : (u8s e).toArray.size = 8 := by rw [List.size_toArray, u8s_len, he8]
  generalize ceC c (.slice aA c.os.length cA) (.slice aS c.sg.length cS) = F at kC hc21 ⊢
  generalize chkK x.d c h e ss = fv at kC hv ⊢
  refine z_ ?_
  refine Run.nw nbx ?_
  intro b5
  refine z_ ?_
  refine Run.nw nbx ?_
  intro b7
  refine x_ ?_
  exact RQ.ret1 rfl (Res.tmp rfl) fun w' hm => ⟨rfl, hm.fr⟩
theorem TakeK_yes (hv : chkK x.d c h e ss = 0) (hcap : 42 + rest.length = cap * 42) {ap : Hp} (hk : ∀ w, Has ap w → x.ok w ∧ SrcW w 9 (.slice aA c.os.length cA) c.os.length (rws OutD.c c.os) ∧ SrcW w 282 (.slice aS c.sg.length cS) c.sg.length (rws SgD.c c.sg)) (hw : Has (KW sb b cap rest x ++ ap) w) (hnd : ((KW sb b cap rest x ++ ap).map (·.1)).Nodup) (hK : Laid w) (hst : 0 ∉ (KW sb b cap rest x ++ ap).map (·.1)) :
    Turns Tryz.prog 9 [.pointer (some ⟨sb, 0, none⟩), .agg (ceC c (.slice aA c.os.length cA) (.slice aS c.sg.length cS)).toArray, .int .i64 h, .agg (u8s e).toArray] w (KW sb b cap rest x ++ ap)
      (Y := {z : KX × Hp // z.1.d = ⟨x.d.r, true, c⟩ ∧ ∀ w, Has z.2 w → z.1.ok w}) (fun _ => .int .i64 0) (fun z => KW sb b cap rest z.1.1 ++ (z.1.2 ++ ap)) := by
  have hCk := fun w' h1 h2 h3 h4 h5 => CheckK_calls x hx hH c hsd hl hn hg ss hss hsl aA cA aS cS h e he8 sb b cap rest w' h1 h2 h3 h4 h5
  rw [hv] at hCk
  have hSd := fun w' h1 h2 => SideK_calls x hx sb b cap rest w' h1 h2
  refine enter Tryz.func9 rfl (Mem.init (S0 := (KW sb b cap rest x ++ ap).map (·.1)) hw (fun p hp => List.mem_map_of_mem hp) hnd) rfl ?_
  have c0 : rdAt ti3 (ceC c (.slice aA c.os.length cA) (.slice aS c.sg.length cS)).toArray 0 = some (.int .i64 0) := by rw [← hsd]; exact rd_one rfl rfl
  have hc21 : (ceC c (.slice aA c.os.length cA) (.slice aS c.sg.length cS)).toArray.size = 21 := by rw [List.size_toArray, ceC_len]
  have hc1 := ceC_one c aA c.os.length cA aS c.sg.length cS
  have he : (u8s e).toArray.size = 8 := by rw [List.size_toArray, u8s_len, he8]
  have hW20 := fun (d : Kd) (kv ov sv uv : Value) => kd_w20 d c kv ov sv uv (.slice aA c.os.length cA) (.slice aS c.sg.length cS)
  generalize hFF : ceC c (.slice aA c.os.length cA) (.slice aS c.sg.length cS) = F at hCk c0 hc21 hc1 hW20 ⊢
  refine z_ ?_
  refine Run.nw nbx ?_
  intro b5
  refine z_ ?_
  refine Run.nw nbx ?_
  intro b7
  refine x_ ?_
  have hA : ∀ {L0 L1 : Hp} {w' : World}, Mem w ((KW sb b cap rest x ++ ap).map (·.1)) (L0 ++ (KW sb b cap rest x ++ ap)) w' → Has (KW sb b cap rest x) w' ∧ Has ap w' := fun hm => ⟨fun p hp => hm.has p (List.mem_append_right _ (List.mem_append_left _ hp)), fun p hp => hm.has p (List.mem_append_right _ (List.mem_append_right _ hp))⟩
  refine Run.op1 (OpTo.cv Tryz.func14 (fun w' hm => hCk w' (hA (L0 := [_, _]) (L1 := []) hm).1 (hk w' (hA (L0 := [_, _]) (L1 := []) hm).2).1 (hk w' (hA (L0 := [_, _]) (L1 := []) hm).2).2.1 (hk w' (hA (L0 := [_, _]) (L1 := []) hm).2).2.2 (hK.fr hm.fr hst))) (fun _ => ?_)
  refine x_ ?_
  refine Run.op1 (OpTo.callD Tryz.func12 (fun w' hm => hSd w' (hA (L0 := [_, _]) (L1 := []) hm).1 (hk w' (hA (L0 := [_, _]) (L1 := []) hm).2).1)) ?_
  rintro ⟨⟨y, bl⟩, hd, hy⟩
  dsimp only at hd hy ⊢
  obtain ⟨yd, ⟨ka, kc⟩, yov, ysv, ⟨ua, uc⟩⟩ := y
  dsimp only at hd
  subst hd
  obtain ⟨ya, yb⟩ := yov
  obtain ⟨yc, ye⟩ := ysv
  have hyc : KX.c ⟨x.d, (ka, kc), (ya, yb), (yc, ye), (ua, uc)⟩ = kdC x.d (.slice ka x.d.r.keys.length kc) (.slice ya x.d.c.os.length yb) (.slice yc x.d.c.sg.length ye) (.slice ua x.d.r.used.length uc) := rfl
  rw [hyc]
  have hsz := fun d kv ov sv uv => (show (kdC d kv ov sv uv).toArray.size = 42 by rw [List.size_toArray, kdC_len])
  have hz0 := hsz x.d (.slice ka x.d.r.keys.length kc) (.slice ya x.d.c.os.length yb) (.slice yc x.d.c.sg.length ye) (.slice ua x.d.r.used.length uc)
  refine x_ ?_
  refine Run.nw nal ?_
  intro b10
  refine x_ ?_
  refine Run.op1 (osa (arr := ti45.zero.cells) (e := 45) (L' := bl ++ ((b7, Obj.cells (u8s e).toArray 32 (0, 0)) :: ((b5, Obj.cells F.toArray 36 (0, 0)) :: (KW sb b cap rest x ++ ap)))) (kdC x.d (.slice ka x.d.r.keys.length kc) (.slice ya x.d.c.os.length yb) (.slice yc x.d.c.sg.length ye) (.slice ua x.d.r.used.length uc)).toArray (kdC_one _ rfl rfl rfl rfl) (hL := (perm_of fun f => by (simp only [List.map_append, List.map_cons, List.map_nil, List.sum_append, List.sum_cons, List.sum_nil] <;> omega))) (hs := by exact hz0)) (fun _ => ?_)
  refine x_ ?_
  (repeat refine RC.seq ?_); refine RC.draw ([(b5, Obj.cells F.toArray 36 (0, 0))]) mixed (N := 5) rfl ?_
  refine dy 0 ?_
  refine dy 1 ?_
  refine DR.c 2 ?_
  refine DOp.op1 rfl (ostE (arr := (kdC x.d (.slice ka x.d.r.keys.length kc) (.slice ya x.d.c.os.length yb) (.slice yc x.d.c.sg.length ye) (.slice ua x.d.r.used.length uc)).toArray) (e := 45) (L' := bl ++ ((b7, Obj.cells (u8s e).toArray 32 (0, 0)) :: ((b5, Obj.cells F.toArray 36 (0, 0)) :: (KW sb b cap rest x ++ ap)))) (kdC { x.d with pend := true } (.slice ka x.d.r.keys.length kc) (.slice ya x.d.c.os.length yb) (.slice yc x.d.c.sg.length ye) (.slice ua x.d.r.used.length uc)).toArray (hL := (perm_of fun f => by (simp only [List.map_append, List.map_cons, List.map_nil, List.sum_append, List.sum_cons, List.sum_nil] <;> omega))) (he := by exact kd_w19 _ _ _ _ _ _) (hf := by rw [hsz]; decide) (h1 := by exact one_b' _)) (fun _ => ?_)
  refine dy 3 ?_
  refine DR.c 4 ?_
  refine DOp.op1 rfl (ostE (arr := (kdC { x.d with pend := true } (.slice ka x.d.r.keys.length kc) (.slice ya x.d.c.os.length yb) (.slice yc x.d.c.sg.length ye) (.slice ua x.d.r.used.length uc)).toArray) (e := 45) (L' := bl ++ ((b7, Obj.cells (u8s e).toArray 32 (0, 0)) :: ((b5, Obj.cells F.toArray 36 (0, 0)) :: (KW sb b cap rest x ++ ap)))) (kdC ⟨x.d.r, true, c⟩ (.slice ka x.d.r.keys.length kc) (.slice aA c.os.length cA) (.slice aS c.sg.length cS) (.slice ua x.d.r.used.length uc)).toArray (hL := (perm_of fun f => by (simp only [List.map_append, List.map_cons, List.map_nil, List.sum_append, List.sum_cons, List.sum_nil] <;> omega))) (hs := by exact hc21) (he := by exact hW20 _ _ _ _ _) (hf := by rw [hsz]; decide) (h1 := by exact hc1)) (fun _ => ?_)
  refine DR.done (by kernel_rfl) ?_
  obtain ⟨z, hz⟩ : ∃ z : KX, z = ⟨⟨x.d.r, true, c⟩, (ka, kc), (aA, cA), (aS, cS), (ua, uc)⟩ := ⟨_, rfl⟩
  have hzc : kdC ⟨x.d.r, true, c⟩ (.slice ka x.d.r.keys.length kc) (.slice aA c.os.length cA) (.slice aS c.sg.length cS) (.slice ua x.d.r.used.length uc) = z.c := by rw [hz]; rfl
  have hz42 : z.c.toArray.size = 42 := by rw [List.size_toArray, z.len]
  have hzl : z.ln := by rw [hz]; exact ⟨hx.k, by show c.os.length ≤ 4096; omega, by show c.sg.length ≤ 4096; omega, hx.u⟩
  have hzd : z.d = ⟨x.d.r, true, c⟩ := by rw [hz]
  have hzk : ∀ w, Has (bl ++ ap) w → z.ok w := fun w hw => by
    have h1 := hy w hw.left
    have h2 := hk w hw.right
    rw [hz]
    exact ⟨h1.k, h2.2.1, h2.2.2, h1.u⟩
  rw [hzc]
  refine x_ ?_
  have hpz : ((b10, Obj.cells z.c.toArray 45 (0, 0)) :: (bl ++ ((b7, Obj.cells (u8s e).toArray 32 (0, 0)) :: ((b5, Obj.cells F.toArray 36 (0, 0)) :: (KW sb b cap rest x ++ ap)))) : Hp).Perm ((KW sb b cap rest x ++ (bl ++ ap)) ++ [(b10, Obj.cells z.c.toArray 45 (0, 0)), (b7, Obj.cells (u8s e).toArray 32 (0, 0)), (b5, Obj.cells F.toArray 36 (0, 0))]) := (perm_of fun f => by (simp only [List.map_append, List.map_cons, List.map_nil, List.sum_append, List.sum_cons, List.sum_nil] <;> omega))
  refine Run.op1 (OpTo.callT Tryz.func23 hpz (fun w' hm => SetK_calls x z hzl sb b cap rest hcap hzk w' (hasFs hpz hm).1 (hasFs hpz hm).2)) ?_
  rintro ⟨⟨z2, bz⟩, hz2, hk2⟩
  dsimp only at hz2 hk2 ⊢
  refine x_ ?_
  exact RQ.ret1 rfl (Res.tmp rfl) fun w' hm => Turns.of (Y := {z : KX × Hp // z.1.d = ⟨x.d.r, true, c⟩ ∧ ∀ w, Has z.2 w → z.1.ok w}) (V := fun _ => .int .i64 0) (L' := fun z => KW sb b cap rest z.1.1 ++ (z.1.2 ++ ap)) (Lst := KW sb b cap rest x ++ ap) ⟨(z2, bz), hz2.trans hzd, hk2⟩ hm (Lr := bl ++ [(b10, Obj.cells z.c.toArray 45 (0, 0)), (b7, Obj.cells (u8s e).toArray 32 (0, 0)), (b5, Obj.cells F.toArray 36 (0, 0))]) (by dsimp only; exact (perm_of fun f => by (simp only [List.map_append, List.map_cons, List.map_nil, List.sum_append, List.sum_cons, List.sum_nil] <;> omega)))
end
end Go.Proofs.YtkkfaffehbjdgaaGreatDoor
end
section
/- SHA-256 once more, so that the kernel reckons it quickly. -/
namespace Go.Sha

/-- A number is reckoned ahead of what is done with it. -/
noncomputable def force {α : Type} (x : Nat) (f : Nat → α) : α := Nat.rec (motive := fun _ => α) (f Nat.zero) (fun n _ => f (Nat.succ n)) x
theorem force_eq {α : Type} (x : Nat) (f : Nat → α) : force x f = f x := by cases x <;> rfl
def ror (p q x : Nat) : Nat := Nat.lor (Nat.mod (Nat.mul x q) 4294967296) (Nat.div x p)
def fsg0 (x : Nat) : Nat := Nat.xor (Nat.xor (ror 128 33554432 x) (ror 262144 16384 x)) (Nat.div x 8)
def fsg1 (x : Nat) : Nat := Nat.xor (Nat.xor (ror 131072 32768 x) (ror 524288 8192 x)) (Nat.div x 1024)
def fSg1 (e : Nat) : Nat := Nat.xor (Nat.xor (ror 64 67108864 e) (ror 2048 2097152 e)) (ror 33554432 128 e)
def fSg0 (a : Nat) : Nat := Nat.xor (Nat.xor (ror 4 1073741824 a) (ror 8192 524288 a)) (ror 4194304 1024 a)
def fch (e f g : Nat) : Nat := Nat.xor (Nat.land e f) (Nat.land (Nat.xor 4294967295 e) g)
def fmaj (a b c : Nat) : Nat := Nat.xor (Nat.xor (Nat.land a b) (Nat.land a c)) (Nat.land b c)
def fnew (w0 w1 w9 w14 : Nat) : Nat := Nat.mod (Nat.add (Nat.add (Nat.add w0 w9) (fsg0 w1)) (fsg1 w14)) 4294967296
theorem fnew_eq (w0 w1 w9 w14 : Nat) : fnew w0 w1 w9 w14 = (w0 + w9 + sg0 w1 + sg1 w14) % 4294967296 := rfl
def fT (e f g h k x : Nat) : Nat := Nat.mod (Nat.add (Nat.add (Nat.add (Nat.add h (fSg1 e)) (fch e f g)) k) x) 4294967296
theorem fT_def (e f g h k x : Nat) : fT e f g h k x = (h + Sg1 e + ch e f g + k + x) % 4294967296 := rfl
def fA (a b c t : Nat) : Nat := Nat.mod (Nat.add t (Nat.add (fSg0 a) (fmaj a b c))) 4294967296
theorem fA_def (a b c t : Nat) : fA a b c t = (t + (Sg0 a + maj a b c)) % 4294967296 := rfl
def fE (d t : Nat) : Nat := Nat.mod (Nat.add d t) 4294967296
theorem fE_def (d t : Nat) : fE d t = (d + t) % 4294967296 := rfl

/-- The rounds, with the sixteen words that are next. -/
noncomputable def goS (ks : List Nat) : Nat → Nat → Nat → Nat → Nat → Nat → Nat → Nat → Nat → Nat → Nat → Nat → Nat → Nat → Nat → Nat → Nat → Nat → Nat → Nat → Nat → Nat → Nat → Nat → V8 :=
  List.rec (motive := fun _ => Nat → Nat → Nat → Nat → Nat → Nat → Nat → Nat → Nat → Nat → Nat → Nat → Nat → Nat → Nat → Nat → Nat → Nat → Nat → Nat → Nat → Nat → Nat → Nat → V8)
    (fun _ _ _ _ _ _ _ _ _ _ _ _ _ _ _ _ a b c d e f g h => ⟨a, b, c, d, e, f, g, h⟩)
    (fun k _ ih w0 w1 w2 w3 w4 w5 w6 w7 w8 w9 w10 w11 w12 w13 w14 w15 a b c d e f g h => force (fnew w0 w1 w9 w14) fun w16 => force (fT e f g h k w0) fun t => force (fA a b c t) fun a' => force (fE d t) fun e' => ih w1 w2 w3 w4 w5 w6 w7 w8 w9 w10 w11 w12 w13 w14 w15 w16 a' a b c e' e f g)
    ks

theorem goS_cons (k : Nat) (ks : List Nat) (w0 w1 w2 w3 w4 w5 w6 w7 w8 w9 w10 w11 w12 w13 w14 w15 a b c d e f g h : Nat) : goS (k :: ks) w0 w1 w2 w3 w4 w5 w6 w7 w8 w9 w10 w11 w12 w13 w14 w15 a b c d e f g h = force (fnew w0 w1 w9 w14) fun w16 => force (fT e f g h k w0) fun t => force (fA a b c t) fun a' => force (fE d t) fun e' => goS ks w1 w2 w3 w4 w5 w6 w7 w8 w9 w10 w11 w12 w13 w14 w15 w16 a' a b c e' e f g := rfl
/-- The word at j of a block's schedule. -/
def wf (b : List Nat) (j : Nat) : Nat := (W b (j + 1)).getD j 0
theorem wf_def (b : List Nat) (j : Nat) : wf b j = wd b (W b j) := by
  have hl := W_length b j
  have e : wf b j = (W b j ++ [wd b (W b j)]).getD j 0 := rfl
  rw [e, List.getD_eq_getElem?_getD, List.getElem?_append_right (by omega), hl, Nat.sub_self]
  rfl
theorem W_succ (b : List Nat) (n : Nat) : W b (n + 1) = W b n ++ [wd b (W b n)] := rfl
theorem W_at (b : List Nat) : ∀ (n j : Nat), j < n → (W b n).getD j 0 = wf b j
  | 0, _, h => by cases h
  | n + 1, j, h => by
    by_cases e : j = n
    · subst e; rfl
    · have h' : j < n := by omega
      rw [← W_at b n j h']
      have hl := W_length b n
      rw [W_succ, List.getD_eq_getElem?_getD, List.getD_eq_getElem?_getD, List.getElem?_append_left (by omega)]
theorem wf_new (b : List Nat) (i : Nat) : wf b (i + 16) = fnew (wf b i) (wf b (i + 1)) (wf b (i + 9)) (wf b (i + 14)) := by
  have hl := W_length b (i + 16)
  rw [wf_def b (i + 16)]
  unfold wd
  rw [if_neg (by omega), hl, show i + 16 - 16 = i by omega, show i + 16 - 7 = i + 9 by omega, show i + 16 - 15 = i + 1 by omega, show i + 16 - 2 = i + 14 by omega,
    W_at _ _ _ (by omega), W_at _ _ _ (by omega), W_at _ _ _ (by omega), W_at _ _ _ (by omega)]
  rw [fnew_eq]
  generalize sg0 (wf b (i + 1)) = x1
  generalize sg1 (wf b (i + 14)) = x2
  omega
theorem fT_eq (s : V8) (k x : Nat) : fT s.e s.f s.g s.h k x = rt s k x := by
  rw [fT_def]
  unfold rt add32
  omega
theorem fA_eq (s : V8) (t : Nat) : fA s.a s.b s.c t = add32 t (ru s) := by
  rw [fA_def]
  unfold ru add32
  omega
theorem goS_eq (b : List Nat) (s0 : V8) : ∀ (ks : List Nat) (i : Nat), ks = K.drop i → i ≤ 64 → ∀ s : V8, s = rounds s0 (W b 64) i →
    goS ks (wf b i) (wf b (i + 1)) (wf b (i + 2)) (wf b (i + 3)) (wf b (i + 4)) (wf b (i + 5)) (wf b (i + 6)) (wf b (i + 7)) (wf b (i + 8)) (wf b (i + 9)) (wf b (i + 10)) (wf b (i + 11)) (wf b (i + 12)) (wf b (i + 13)) (wf b (i + 14)) (wf b (i + 15)) s.a s.b s.c s.d s.e s.f s.g s.h = rounds s0 (W b 64) 64
  | [], i, hk, hi, s, hs => by
    have : i = 64 := by
      have h := congrArg List.length hk
      rw [List.length_drop, K_len, List.length_nil] at h
      omega
    subst this
    rw [← hs]
    rfl
  | k :: ks, i, hk, hi, s, hs => by
    have hlt : i < K.length := by
      have h := congrArg List.length hk
      rw [List.length_drop, List.length_cons] at h
      omega
    have hlt64 : i < 64 := by rwa [K_len] at hlt
    rw [List.drop_eq_getElem_cons hlt] at hk
    have h1 : k = K.getD i 0 := by
      have := List.head_eq_of_cons_eq hk
      rw [this, List.getD_eq_getElem?_getD, List.getElem?_eq_getElem hlt]; rfl
    have h2 := List.tail_eq_of_cons_eq hk
    have hr : rounds s0 (W b 64) (i + 1) = rnd s k (wf b i) := by
      show rnd (rounds s0 (W b 64) i) (K.getD i 0) ((W b 64).getD i 0) = _
      rw [← hs, ← h1, W_at b 64 i hlt64]
    have ih := goS_eq b s0 ks (i + 1) h2 hlt64 (rnd s k (wf b i)) hr.symm
    rw [← ih, goS_cons, force_eq, force_eq, force_eq, force_eq, ← wf_new, fA_eq, fT_eq, fE_def]
    rfl

/-- Four bytes to a word. -/
def wordsB : List Nat → List Nat
  | a :: b :: c :: d :: r => Nat.add (Nat.mul (Nat.add (Nat.mul (Nat.add (Nat.mul a 256) b) 256) c) 256) d :: wordsB r
  | _ => []
theorem wordsB_at : ∀ (j : Nat) (l : List Nat), 4 * j + 3 < l.length → (wordsB l).getD j 0 = bpart l (4 * j) 4
  | 0, a :: b :: c :: d :: r, _ => by
    show (((a * 256 + b) * 256 + c) * 256 + d) = _
    simp [bpart]
  | j + 1, a :: b :: c :: d :: r, h => by
    have ih := wordsB_at j r (by simp only [List.length_cons] at h; omega)
    show (wordsB r).getD j 0 = _
    rw [ih]
    have e : ∀ k, (a :: b :: c :: d :: r).getD (4 * (j + 1) + k) 0 = r.getD (4 * j + k) 0 := by
      intro k
      rw [show 4 * (j + 1) + k = 4 * j + k + 1 + 1 + 1 + 1 by omega]
      rfl
    simp only [bpart, e]
  | _, [], h => by simp only [List.length_nil] at h; omega
  | _, [_], h => by simp only [List.length_cons, List.length_nil] at h; omega
  | _, [_, _], h => by simp only [List.length_cons, List.length_nil] at h; omega
  | _, [_, _, _], h => by simp only [List.length_cons, List.length_nil] at h; omega
@[irreducible] noncomputable def fcomp (s : V8) (ws : List Nat) : V8 := V8.add s (goS K (ws.getD 0 0) (ws.getD 1 0) (ws.getD 2 0) (ws.getD 3 0) (ws.getD 4 0) (ws.getD 5 0) (ws.getD 6 0) (ws.getD 7 0) (ws.getD 8 0) (ws.getD 9 0) (ws.getD 10 0) (ws.getD 11 0) (ws.getD 12 0) (ws.getD 13 0) (ws.getD 14 0) (ws.getD 15 0) s.a s.b s.c s.d s.e s.f s.g s.h)
theorem fcomp_eq (s : V8) (b : List Nat) (hb : b.length = 64) : fcomp s (wordsB b) = compress s b := by
  have hw : ∀ j, j < 16 → (wordsB b).getD j 0 = wf b j := by
    intro j hj
    rw [wordsB_at j b (by omega)]
    have hl := W_length b j
    rw [wf_def]
    unfold wd
    rw [if_pos (by omega), hl]
  unfold fcomp compress
  rw [hw 0 (by decide), hw 1 (by decide), hw 2 (by decide), hw 3 (by decide), hw 4 (by decide), hw 5 (by decide), hw 6 (by decide), hw 7 (by decide), hw 8 (by decide), hw 9 (by decide), hw 10 (by decide), hw 11 (by decide), hw 12 (by decide), hw 13 (by decide), hw 14 (by decide), hw 15 (by decide), ← goS_eq b s K 0 rfl (by decide) s rfl]
/-- Piece after piece of 64. -/
noncomputable def iter {α : Type} (f : α → List Nat → α) (n : Nat) : List Nat → α → α :=
  Nat.rec (motive := fun _ => List Nat → α → α) (fun _ s => s) (fun _ ih pd s => ih (pd.drop 64) (f s (pd.take 64))) n
theorem iter_zero {α : Type} (f : α → List Nat → α) (pd : List Nat) (s : α) : iter f 0 pd s = s := rfl
theorem iter_succ {α : Type} (f : α → List Nat → α) (n : Nat) (pd : List Nat) (s : α) : iter f (n + 1) pd s = iter f n (pd.drop 64) (f s (pd.take 64)) := rfl
theorem iter_eq {α : Type} (f g : α → List Nat → α) (hfg : ∀ s b, b.length = 64 → f s b = g s b) (S : Nat → α) (p : List Nat) (hS : ∀ k, S (k + 1) = g (S k) ((p.drop (64 * k)).take 64)) : ∀ (n k : Nat), 64 * (k + n) ≤ p.length → iter f n (p.drop (64 * k)) (S k) = S (k + n)
  | 0, k, _ => by rw [Nat.add_zero, iter_zero]
  | n + 1, k, h => by
    have ih := iter_eq f g hfg S p hS n (k + 1) (by omega)
    have e : k + (n + 1) = k + 1 + n := by omega
    have e2 : 64 * k + 64 = 64 * (k + 1) := by omega
    rw [iter_succ, hfg _ _ (by rw [List.length_take, List.length_drop]; omega), ← hS, List.drop_drop, e2, ih, e]
def fbytes (s : V8) : List Nat := [s.a / 16777216 % 256, s.a / 65536 % 256, s.a / 256 % 256, s.a % 256, s.b / 16777216 % 256, s.b / 65536 % 256, s.b / 256 % 256, s.b % 256]
theorem fbytes_eq (s : V8) : (outB s 32).take 8 = fbytes s := by
  unfold outB fbytes
  rw [← List.map_take, List.take_range, show List.range (min 8 32) = [0, 1, 2, 3, 4, 5, 6, 7] from rfl]
  simp [V8.l]
noncomputable def fdigest (p : Nat) (ls : List (List Nat)) : List Nat := fbytes (iter (fun s b => fcomp s (wordsB b)) (Nat.div (padded (text p ls)).length 64) (padded (text p ls)) H0)
theorem digest_fast (p : Nat) (ls : List (List Nat)) : digest p ls = fdigest p ls := by
  unfold fdigest digest sha
  have hm := padded_mod (text p ls)
  generalize padded (text p ls) = pd at *
  have h := iter_eq (fun s b => fcomp s (wordsB b)) compress (fun s b hb => fcomp_eq s b hb) (sumTo pd) pd (fun k => by rw [sumTo]) (pd.length / 64) 0 (by omega)
  rw [Nat.mul_zero, List.drop_zero, Nat.zero_add, show sumTo pd 0 = H0 by rw [sumTo]] at h
  rw [fbytes_eq, ← h]
  rfl
end Go.Sha

/- Keys and trees, so that the kernel reckons them quickly. -/
namespace Go.Sha
noncomputable def fmrk (seed : List Nat) (ib i : Nat) : List Nat := fdigest 112 [fdigest 115 [seed, [ib, i, 0, 0]]] ++ fdigest 112 [fdigest 115 [seed, [ib, i, 1, 0]]]
theorem mrks_fast (seed : List Nat) (ib : Nat) : mrks seed ib = fmrk seed ib := by
  funext i
  unfold mrks fmrk markH secret
  rw [digest_fast, digest_fast, digest_fast, digest_fast]
noncomputable def fpub (seed : List Nat) (ib : Nat) : List Nat := fdigest 107 [rowOf (fmrk seed ib) 16]
theorem pub_fast (seed : List Nat) (ib : Nat) : pubKey seed ib = fpub seed ib := by
  unfold pubKey fpub pubOf
  rw [digest_fast, mrks_fast]
noncomputable def fleaf (h : List Nat) : List Nat := fdigest 108 [h]
noncomputable def fjoin (a b : List Nat) : List Nat := fdigest 109 [a, b]
theorem mroot_join {l : List (List Nat)} (h : 1 < l.length) : mroot l = joinN (mroot (l.take (cut l.length))) (mroot (l.drop (cut l.length))) := by
  rw [mroot]
  rw [dif_neg (by omega)]
theorem mroot_1 (a : List Nat) : mroot [a] = fleaf a := by
  rw [mroot]
  rw [dif_pos (by simp)]
  show leafN a = _
  unfold leafN fleaf
  rw [digest_fast]
theorem joinN_fast (a b : List Nat) : joinN a b = fjoin a b := by
  unfold joinN fjoin
  rw [digest_fast]
theorem cut8 : cut 8 = 4 := by kernel_rfl
theorem cut4 : cut 4 = 2 := by kernel_rfl
theorem cut2 : cut 2 = 1 := by kernel_rfl
theorem mroot_2 (a b : List Nat) : mroot [a, b] = fjoin (fleaf a) (fleaf b) := by
  rw [mroot_join (by simp), show ([a, b] : List (List Nat)).length = 2 from rfl, cut2, joinN_fast]
  show fjoin (mroot [a]) (mroot [b]) = _
  rw [mroot_1, mroot_1]
theorem mroot_4 (a b c d : List Nat) : mroot [a, b, c, d] = fjoin (fjoin (fleaf a) (fleaf b)) (fjoin (fleaf c) (fleaf d)) := by
  rw [mroot_join (by simp), show ([a, b, c, d] : List (List Nat)).length = 4 from rfl, cut4, joinN_fast]
  show fjoin (mroot [a, b]) (mroot [c, d]) = _
  rw [mroot_2, mroot_2]
theorem mroot_8 (a b c d e f g h : List Nat) : mroot [a, b, c, d, e, f, g, h] = fjoin (fjoin (fjoin (fleaf a) (fleaf b)) (fjoin (fleaf c) (fleaf d))) (fjoin (fjoin (fleaf e) (fleaf f)) (fjoin (fleaf g) (fleaf h))) := by
  rw [mroot_join (by simp), show ([a, b, c, d, e, f, g, h] : List (List Nat)).length = 8 from rfl, cut8, joinN_fast]
  show fjoin (mroot [a, b, c, d]) (mroot [e, f, g, h]) = _
  rw [mroot_4, mroot_4]
/-- A tree's root from its keys. -/
theorem tree_fast {seed a b c d e f g h : List Nat} (h0 : pubKey seed 0 = a) (h1 : pubKey seed 1 = b) (h2 : pubKey seed 2 = c) (h3 : pubKey seed 3 = d) (h4 : pubKey seed 4 = e) (h5 : pubKey seed 5 = f) (h6 : pubKey seed 6 = g) (h7 : pubKey seed 7 = h) :
    treeOf seed = fjoin (fjoin (fjoin (fleaf a) (fleaf b)) (fjoin (fleaf c) (fleaf d))) (fjoin (fjoin (fleaf e) (fleaf f)) (fjoin (fleaf g) (fleaf h))) := by
  have e : pubs seed 8 = [pubKey seed 0, pubKey seed 1, pubKey seed 2, pubKey seed 3, pubKey seed 4, pubKey seed 5, pubKey seed 6, pubKey seed 7] := rfl
  unfold treeOf
  rw [e, h0, h1, h2, h3, h4, h5, h6, h7, mroot_8]
end Go.Sha
end
