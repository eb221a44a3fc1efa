import Derived.Test.YtmajfapnbchecaaGreatDoorTc6
set_option linter.unusedSimpArgs false
set_option linter.unusedVariables false
/- tx: TxMessages (gen_msg.py prints it). -/
namespace Go.Proofs.YtmajfapnbchecaaGreatDoor
attribute [local irreducible] Go.Vc.Run Go.Vc.RC Go.Vc.RQ Go.Vc.DR Go.Vc.DOp Go.Vc.Knows Go.Vc.At
set_option maxHeartbeats 400000
set_option maxRecDepth 10000
open Go Go.Vc Go.Sha
set_option maxRecDepth 10000 in set_option maxHeartbeats 4000000 in
theorem RPaid_calls (z n : Nat) (hz : z < 256) (hn : n < 1024) (h : List Nat) (h8 : h.length = 8) (hb : ∀ x ∈ h, x < 256) (w : World) : Gives Tryz.prog 16 [.int .i64 z, .int .i64 n, .agg (u8s h).toArray] (.agg (u8s (digest 119 [[z], le4 n, h])).toArray) w := by
  refine enter Tryz.func16 rfl (Mem.nil w []) rfl ?_
  have hs8 : (u8s h).toArray.size = 8 := by rw [List.size_toArray, u8s_len, h8]
  have hd8 : (digest 119 [[z], le4 n, h]).length = 8 := digest_len _ _
  have ez : le ((z : Nat) : Int).toNat 1 = [z] := by rw [Int.toNat_natCast]; rw [show le z 1 = [z % 256] from by simp [le], Nat.mod_eq_of_lt hz]
  have en : le ((n : Nat) : Int).toNat 4 = le4 n := by rw [Int.toNat_natCast]; exact le_four n
  refine z_ ?_
  refine Run.nw nbx ?_
  intro b5
  refine z_ ?_
  refine Run.nw nal ?_
  intro b6
  refine x_ ?_
  (repeat refine RC.seq ?_); refine RC.draw ([]) mixed (N := 8) rfl ?_
  refine dy 0 ?_
  refine dy 2 ?_
  refine DR.t 4 rfl (vslA) ?_
  refine DR.c 1 (DOp.op1 rfl (mkB Tryz.func39 (fun w' hm => rNum (z : Int) 1 (by decide) (Int.natCast_nonneg _) w')) ?_)
  rintro ⟨⟨v8, l8⟩, o8⟩
  dsimp only at o8 ⊢
  rw [ez] at o8
  refine DR.c 3 (DOp.op1 rfl (mkB Tryz.func39 (fun w' hm => rNum (n : Int) 4 (by decide) (Int.natCast_nonneg _) w')) ?_)
  rintro ⟨⟨v10, l10⟩, o10⟩
  dsimp only at o10 ⊢
  rw [en] at o10
  obtain ⟨a8, c8, rfl, hc8⟩ := o8.shape
  obtain ⟨a10, c10, rfl, hc10⟩ := o10.shape
  refine DR.c 5 ?_
  refine DOp.op1 rfl (OpTo.new rfl rfl (nbsk (parts := [(0, .tmp 8), (1, .tmp 10), (2, .tmp 11)]) #[.slice a8 [z].length c8, .slice a10 (le4 n).length c10, .slice (some ⟨b5, 0, none⟩) 8 8])) ?_
  intro b12
  have hfinal : ∀ w', Mem w [] ((b12, Obj.cells #[.slice a8 [z].length c8, .slice a10 (le4 n).length c10, .slice (some ⟨b5, 0, none⟩) 8 8] 22 (0, 0)) :: (l10 ++ (l8 ++ [(b6, Obj.cells ti31.zero.cells 31 (0, 0)), (b5, Obj.cells (u8s h).toArray 31 (0, 0))]))) w' → Gives Tryz.prog 37 [.int .u8 119, .slice (some ⟨b12, 0, none⟩) 3 3] (.agg (u8s (digest 119 [[z], le4 n, h])).toArray) w' := fun w' hm' => by
    have e5 : SrcW w' 1 (.slice (some ⟨b5, 0, none⟩) 8 8) h.length (u8s h) := by
      rw [h8]
      exact SrcW.row hm' (e := 31) (fz := (0, 0)) (cs := u8s h) (List.mem_cons_of_mem _ (List.mem_append_right _ (List.mem_append_right _ (List.mem_cons_of_mem _ List.mem_cons_self)))) (by rw [u8s_len, h8]) (Nat.le_refl 8)
    refine Digest_calls 119 (by decide) _ [.slice a8 [z].length c8, .slice a10 (le4 n).length c10, .slice (some ⟨b5, 0, none⟩) 8 8] [[z], le4 n, h] w' (SrcW.row hm' m0 rfl (Nat.le_refl 3)) (Parts.cons (o8.srcW (fun q hq => hm'.has q (List.mem_cons_of_mem _ (List.mem_append_right _ (List.mem_append_left _ hq))))) (Parts.cons (o10.srcW (fun q hq => hm'.has q (List.mem_cons_of_mem _ (List.mem_append_left _ hq)))) (Parts.cons e5 Parts.nil))) ?_ ?_
    · show ((([[z], le4 n, h]) : List (List Nat)).map fun l => 4 + l.length).sum ≤ _
      simp only [List.map_cons, List.sum_cons, List.map_nil, List.sum_nil, h8]
      show 4 + 1 + (4 + 4 + _) ≤ _
      decide
    · intro l hl
      rcases List.mem_cons.1 hl with rfl | hl
      · intro x hx; rw [List.mem_singleton] at hx; subst hx; exact hz
      · rcases List.mem_cons.1 hl with rfl | hl
        · exact le4_lt n
        · rw [List.mem_singleton] at hl; subst hl; exact hb
  refine DR.c 6 (DOp.op1 rfl (OpTo.cv Tryz.func37 (fun w' hm' => hfinal w' hm')) (fun _ => ?_))
  refine DR.c 7 ?_
  refine DOp.op1 rfl (osa (arr := ti31.zero.cells) (e := 31) (L' := (b12, Obj.cells #[.slice a8 [z].length c8, .slice a10 (le4 n).length c10, .slice (some ⟨b5, 0, none⟩) 8 8] 22 (0, 0)) :: (l10 ++ (l8 ++ [(b5, Obj.cells (u8s h).toArray 31 (0, 0))]))) (u8s (digest 119 [[z], le4 n, h])).toArray (u8s_one _) (hL := (perm_of fun f => by (simp only [List.map_append, List.map_cons, List.map_nil, List.sum_append, List.sum_cons, List.sum_nil] <;> omega))) (hs := by rw [List.size_toArray, u8s_len, hd8]; rfl)) (fun _ => ?_)
  refine DR.done (by kernel_rfl) ?_
  refine x_ ?_
  exact RQ.ret1 rfl (Res.cellAll tabOk rfl rfl rfl m0 (by rw [List.size_toArray, u8s_len, hd8]; rfl)) fun w' hm' => ⟨rfl, hm'.fr⟩
theorem sg_fill (s : SigD) : (Value.int .i64 1).cells.toList ++ ((Value.agg s.c.toArray).cells.toList ++ ti63.zero.cells.toList.drop (1 + 281)) = SgD.c ⟨1, s⟩ := by
  rw [sg_zero, show List.drop (1 + 281) (SgD.c ⟨0, SigD.nul⟩).toArray.toList = [] from List.drop_of_length_le (by show (SgD.c ⟨0, SigD.nul⟩).length ≤ 282; rw [SgD.len]; exact Nat.le_refl _), List.append_nil]
  rfl
theorem set_bare {is : List InD} {n : Nat} {x : InD} (hx : is[n]? = some x) (s : SigD) : (is.set n { x with s := s }).map InD.bare = is.map InD.bare := by
  rw [List.map_set]
  apply List.ext_getElem?
  intro j
  rw [List.getElem?_set]
  split
  · rename_i e
    subst e
    split
    · rw [List.getElem?_map, hx]; rfl
    · rw [List.getElem?_eq_none (by omega)]
  · rfl
theorem set_fr {is : List InD} {n : Nat} {x : InD} (hx : is[n]? = some x) (s : SigD) : (is.set n { x with s := s }).map InD.fr = is.map InD.fr := by
  rw [List.map_set]
  apply List.ext_getElem?
  intro j
  rw [List.getElem?_set]
  split
  · rename_i e
    subst e
    split
    · rw [List.getElem?_map, hx]; rfl
    · rw [List.getElem?_eq_none (by omega)]
  · rfl
theorem mayI_set {is : List InD} (h : mayI is) {n : Nat} {x : InD} (hx : is[n]? = some x) {s : SigD} (hs : 0 ≤ s.z ∧ s.z ≤ 255) : mayI (is.set n { x with s := s }) := by
  obtain ⟨h1, h2, h3, h4⟩ := h
  refine ⟨fun y hy => ?_, by rw [set_fr hx]; exact h2, by rw [List.length_set]; exact h3, by rw [List.length_set]; exact h4⟩
  rcases List.mem_or_eq_of_mem_set hy with hy | rfl
  · exact h1 y hy
  · exact ⟨(h1 x (List.mem_of_getElem? hx)).1, hs⟩
theorem may_set {t : TxD} (h : TxMay t) (hk : t.kd = 2) {n : Nat} {x : InD} (hx : t.is[n]? = some x) {s : SigD} (hs : 0 ≤ s.z ∧ s.z ≤ 255) : TxMay { t with is := t.is.set n { x with s := s } } := by
  cases h with
  | coin ht os h1 h2 => exact absurd hk (by show ¬ (1 : Int) = 2; decide)
  | pay is os fs h1 h2 h3 h4 => exact TxMay.pay (is.set n { x with s := s }) os fs (mayI_set h1 hx hs) h2 h3 h4
  | create p h => exact absurd hk (by show ¬ (3 : Int) = 2; decide)
  | cert c h => exact absurd hk (by show ¬ (4 : Int) = 2; decide)
  | claim l h => exact absurd hk (by show ¬ (5 : Int) = 2; decide)
theorem txC_set (t : TxD) (v : TxV) (n : Nat) (y : InD) : txC { t with is := t.is.set n y } v = txC t v := by
  rw [txC_eq, txC_eq]
  unfold tx5
  rw [List.length_set]
theorem msgH_set {t : TxD} (h : TxMay t) (hk : t.kd = 2) {n : Nat} {x : InD} (hx : t.is[n]? = some x) {s : SigD} (hs : 0 ≤ s.z ∧ s.z ≤ 255) (i : Int) (hP : MsgP t i) : MsgP { t with is := t.is.set n { x with s := s } } i ∧ msgH { t with is := t.is.set n { x with s := s } } i = msgH t i := by
  have hP' : MsgP { t with is := t.is.set n { x with s := s } } i := ⟨hk, by have := hP.2.1; show 0 ≤ i ∧ i < ((t.is.set n { x with s := s }).length : Int); rw [List.length_set]; exact this, may_set h hk hx hs⟩
  refine ⟨hP', ?_⟩
  rw [show msgH t i = digest 105 [t.bare.b, [i.toNat]] from if_pos hP, show msgH { t with is := t.is.set n { x with s := s } } i = digest 105 [TxD.b (TxD.bare { t with is := t.is.set n { x with s := s } }), [i.toNat]] from if_pos hP']
  have : TxD.bare { t with is := t.is.set n { x with s := s } } = t.bare := by
    unfold TxD.bare
    dsimp only
    rw [set_bare hx]
  rw [this]
theorem and_le (x : Int) (m : Nat) (hm : m < 65536) : ∃ a : Nat, IntKind.i64.wrap ((BitVec.ofInt IntKind.i64.bits x &&& BitVec.ofInt IntKind.i64.bits ((m : Nat) : Int)).toNat : Nat) = ((a : Nat) : Int) ∧ a ≤ m := by
  have h : (BitVec.ofInt IntKind.i64.bits x &&& BitVec.ofInt IntKind.i64.bits ((m : Nat) : Int)).toNat ≤ m := by
    rw [BitVec.toNat_and, BitVec.ofInt_natCast, BitVec.toNat_ofNat, show IntKind.i64.bits = 64 from rfl, Nat.mod_eq_of_lt (show m < 2 ^ 64 by omega)]
    exact Nat.and_le_right
  exact ⟨_, wrap_in (by dsimp only [inK]; omega), h⟩
set_option maxRecDepth 10000 in set_option maxHeartbeats 4000000 in
theorem TxMessages_calls (t : TxD) (v : TxV) (i : Int) (s : SigD) (w : World) (ht : TxAt w t v) (hK : Laid w) : Gives Tryz.prog 4 [.agg (txC t v).toArray, .int .i64 i, .agg s.c.toArray] (.bool true) w := by
  refine enter Tryz.func4 rfl (Mem.nil w []) rfl ?_
  have ca : Knows Tryz.prog w 5 [] (.bool true) := Knows.mk Tryz.func5 (fun w' hf => Tawake_calls w' (hK.fr hf (by simp)))
  have cf : Knows Tryz.prog w 10 [.agg (txC t v).toArray] (.bool (decide (FewP t))) := Knows.mk Tryz.func10 (fun w' hf => TFew_calls t v w')
  have hFs : (txC t v).toArray.size = 170 := by rw [List.size_toArray, txC_len]
  have hSs : s.c.toArray.size = 281 := by rw [List.size_toArray, SigD.len]
  have hO := txC_one t v
  have hsz : rdAt ti3 s.c.toArray 0 = some (.int .i64 s.z) := rfl
  by_cases hf : FewP t
  rotate_left
  · rw [decide_eq_false hf] at cf
    generalize txC t v = F at hFs cf ⊢
    generalize s.c = S at hSs hsz ⊢
    refine z_ ?_
    refine Run.nw nbx ?_
    intro b3
    refine z_ ?_
    refine Run.nw nbx ?_
    intro b5
    refine x_ ?_
    exact RQ.ret1 rfl (Res.tmp rfl) fun w' hm => ⟨rfl, hm.fr⟩
  rw [decide_eq_true hf] at cf
  have hln := hf.ln
  have cM := fun w' (hf : Fr [] w w') => TMessage_calls t v hln i w' (ht.fr hf) (hK.fr hf (by simp))
  have cR := fun w' (hf : Fr [] w w') => RMessage_calls t v hln i w' (ht.fr hf)
  have kM : Knows Tryz.prog w 11 [.agg (txC t v).toArray, .int .i64 i] (.tuple #[.agg (u8s (msgH t i)).toArray, .bool (decide (MsgP t i))]) := Knows.mk Tryz.func11 cM
  have kR : Knows Tryz.prog w 12 [.agg (txC t v).toArray, .int .i64 i] (.tuple #[.agg (u8s (msgH t i)).toArray, .bool (decide (MsgP t i))]) := Knows.mk Tryz.func12 cR
  clear cM cR
  obtain ⟨_, _, ri, _, _, _, _, rc, rep, ren, _, _, _⟩ := tx_rd t v
  have h8 := msgH_len t i
  have kT : ∀ (aS : Option Addr) (nS cS : Nat), Knows Tryz.prog w 13 [.agg (ceC t.c (.slice v.aA t.c.os.length v.cA) (.slice aS nS cS)).toArray] (.tuple #[.agg (u8s (crtH t.c)).toArray, .bool (decide (TxMay (crtT t.c)))]) := fun aS nS cS => Knows.mk Tryz.func13 (fun w' hf => TCertM_calls t.c v.aA v.cA aS nS cS hln.2.2.2.2.1 w' (ht.a.fr hf) (hK.fr hf (by simp)))
  have kC : Knows Tryz.prog w 14 [.agg (ceC t.c (.slice v.aA t.c.os.length v.cA) (.slice v.aS t.c.sg.length v.cS)).toArray] (.tuple #[.agg (u8s (crtH t.c)).toArray, .bool (decide (TxMay (crtT t.c)))]) := Knows.mk Tryz.func14 (fun w' hf => RCertM_calls t.c v.aA v.cA v.aS t.c.sg.length v.cS hln.2.2.2.2.1 w' (ht.a.fr hf))
  have kP : ∀ a b : Nat, a < 256 → b < 1024 → Knows Tryz.prog w 15 [.int .i64 a, .int .i64 b, .agg (u8s t.c.en.1).toArray] (.agg (u8s (digest 119 [[a], le4 b, t.c.en.1])).toArray) := fun a b ha hb => Knows.mk Tryz.func15 (fun w' hf => TPaid_calls a b ha hb t.c.en.1 t.c.en.2.1 t.c.en.2.2 w' (hK.fr hf (by simp)))
  have kQ : ∀ a b : Nat, a < 256 → b < 1024 → Knows Tryz.prog w 16 [.int .i64 a, .int .i64 b, .agg (u8s t.c.en.1).toArray] (.agg (u8s (digest 119 [[a], le4 b, t.c.en.1])).toArray) := fun a b ha hb => Knows.mk Tryz.func16 (fun w' hf => RPaid_calls a b ha hb t.c.en.1 t.c.en.2.1 t.c.en.2.2 w')
  have k8 : (crtH t.c).length = 8 := dgH_len _ _ _
  have hC := fun (aS : Option Addr) (nS cS : Nat) => ceC_len t.c (.slice v.aA t.c.os.length v.cA) (.slice aS nS cS)
  have hC1 := fun (aS : Option Addr) (nS cS : Nat) => ceC_one t.c v.aA t.c.os.length v.cA aS nS cS
  have hC20 := fun (aS : Option Addr) (nS cS : Nat) (q : Value) => (ce_w20 t.c.sd t.c.ep t.c.ql t.c.en t.c.ro (.slice v.aA t.c.os.length v.cA) (.slice aS nS cS) q : wrAt (ceC t.c (.slice v.aA t.c.os.length v.cA) (.slice aS nS cS)).toArray 20 [q] = (ceC t.c (.slice v.aA t.c.os.length v.cA) q).toArray)
  generalize hKK : crtH t.c = K at kT kC k8
  generalize decide (TxMay (crtT t.c)) = qc at kT kC
  have hKs : (u8s K).toArray.size = 8 := by rw [List.size_toArray, u8s_len, k8]
  have hEn8 : (u8s t.c.en.1).toArray.size = 8 := by rw [List.size_toArray, u8s_len, t.c.en.2.1]
  by_cases hz : 0 ≤ s.z ∧ s.z ≤ 255
  rotate_left
  · generalize hF : txC t v = F at hFs cf kM kR ri rc rep ren hO ⊢
    generalize hS : s.c = S at hSs hsz ⊢
    refine z_ ?_
    refine Run.nw nbx ?_
    intro b3
    refine z_ ?_
    refine Run.nw nbx ?_
    intro b5
    by_cases h1 : s.z < 0
    · refine x_ ?_
      exact RQ.ret1 rfl (Res.tmp rfl) fun w' hm => ⟨rfl, hm.fr⟩
    · have h2 : 255 < s.z := by omega
      refine x_ ?_
      exact RQ.ret1 rfl (Res.tmp rfl) fun w' hm => ⟨rfl, hm.fr⟩
  have hMs : (u8s (msgH t i)).toArray.size = 8 := by rw [List.size_toArray, u8s_len, h8]
  by_cases hP : MsgP t i
  rotate_left
  · rw [decide_eq_false hP] at kM kR
    generalize hF : txC t v = F at hFs cf kM kR ri rc rep ren hO ⊢
    generalize hS : s.c = S at hSs hsz ⊢
    generalize hM : msgH t i = M at h8 hMs kM kR ⊢
    refine z_ ?_
    refine Run.nw nbx ?_
    intro b3
    refine z_ ?_
    refine Run.nw nbx ?_
    intro b5
    refine x_ ?_
    refine Run.nw nal ?_
    intro b7
    refine x_ ?_
    refine Run.op1 (osa (arr := ti31.zero.cells) (e := 31) (L' := (b5, Obj.cells S.toArray 53 (0, 0)) :: ((b3, Obj.cells F.toArray 41 (0, 0)) :: [])) (u8s M).toArray (u8s_one M) (hL := (perm_of fun f => by (simp only [List.map_append, List.map_cons, List.map_nil, List.sum_append, List.sum_cons, List.sum_nil] <;> omega))) (hs := by exact hMs)) (fun _ => ?_)
    refine x_ ?_
    refine Run.nw nal ?_
    intro b9
    refine x_ ?_
    refine Run.op1 (osa (arr := ti31.zero.cells) (e := 31) (L' := (b7, Obj.cells (u8s M).toArray 31 (0, 0)) :: ((b5, Obj.cells S.toArray 53 (0, 0)) :: ((b3, Obj.cells F.toArray 41 (0, 0)) :: []))) (u8s M).toArray (u8s_one M) (hL := (perm_of fun f => by (simp only [List.map_append, List.map_cons, List.map_nil, List.sum_append, List.sum_cons, List.sum_nil] <;> omega))) (hs := by exact hMs)) (fun _ => ?_)
    refine x_ ?_
    refine Run.a (vnu 8 M h8 (by kernel_rfl)) ?_
    refine x_ ?_
    refine Run.a (Val.eq (Val.neBool (a := false) (b := false) tabOk rfl rfl rfl rfl rfl) (show _ = Value.bool false from rfl)) ?_
    have hCs : (ceC t.c (.slice v.aA t.c.os.length v.cA) (.slice v.aS t.c.sg.length v.cS)).toArray.size = 21 := by rw [List.size_toArray]; exact hC _ _ _
    refine x_ ?_
    refine Run.nw nal ?_
    intro b14
    refine x_ ?_
    refine Run.op1 (osa (arr := ti34.zero.cells) (e := 34) (L' := (b9, Obj.cells (u8s M).toArray 31 (0, 0)) :: ((b7, Obj.cells (u8s M).toArray 31 (0, 0)) :: ((b5, Obj.cells S.toArray 53 (0, 0)) :: ((b3, Obj.cells F.toArray 41 (0, 0)) :: [])))) (ceC t.c (.slice v.aA t.c.os.length v.cA) (.slice v.aS t.c.sg.length v.cS)).toArray (hC1 _ _ _) (hL := (perm_of fun f => by (simp only [List.map_append, List.map_cons, List.map_nil, List.sum_append, List.sum_cons, List.sum_nil] <;> omega))) (hs := by exact hCs)) (fun _ => ?_)
    have kT0 := kT v.aS t.c.sg.length v.cS
    refine x_ ?_
    refine Run.nw nal ?_
    intro b15
    refine x_ ?_
    refine Run.op1 (osa (arr := ti31.zero.cells) (e := 31) (L' := (b14, Obj.cells (ceC t.c (.slice v.aA t.c.os.length v.cA) (.slice v.aS t.c.sg.length v.cS)).toArray 34 (0, 0)) :: ((b9, Obj.cells (u8s M).toArray 31 (0, 0)) :: ((b7, Obj.cells (u8s M).toArray 31 (0, 0)) :: ((b5, Obj.cells S.toArray 53 (0, 0)) :: ((b3, Obj.cells F.toArray 41 (0, 0)) :: []))))) (u8s K).toArray (u8s_one K) (hL := (perm_of fun f => by (simp only [List.map_append, List.map_cons, List.map_nil, List.sum_append, List.sum_cons, List.sum_nil] <;> omega))) (hs := by exact hKs)) (fun _ => ?_)
    refine x_ ?_
    refine Run.nw nal ?_
    intro b17
    refine x_ ?_
    refine Run.op1 (osa (arr := ti31.zero.cells) (e := 31) (L' := (b15, Obj.cells (u8s K).toArray 31 (0, 0)) :: ((b14, Obj.cells (ceC t.c (.slice v.aA t.c.os.length v.cA) (.slice v.aS t.c.sg.length v.cS)).toArray 34 (0, 0)) :: ((b9, Obj.cells (u8s M).toArray 31 (0, 0)) :: ((b7, Obj.cells (u8s M).toArray 31 (0, 0)) :: ((b5, Obj.cells S.toArray 53 (0, 0)) :: ((b3, Obj.cells F.toArray 41 (0, 0)) :: [])))))) (u8s K).toArray (u8s_one K) (hL := (perm_of fun f => by (simp only [List.map_append, List.map_cons, List.map_nil, List.sum_append, List.sum_cons, List.sum_nil] <;> omega))) (hs := by exact hKs)) (fun _ => ?_)
    refine x_ ?_
    refine Run.a (vbs (SgD.c ⟨1, s⟩).toArray (hf := by exact fill_two' (F := SgD.c ⟨1, s⟩) (a := 1) (b := 281) rfl rfl rfl (show S.toArray.size = 281 by exact hSs) (by decide) (by rw [← hS]; exact sg_fill s))) ?_
    refine Run.nw (nbsl (SgD.c ⟨1, s⟩).toArray (fillS_1 282 _ (SgD.c ⟨1, s⟩) (SgD.len _))) ?_
    intro b108
    refine x_ ?_
    refine Run.op1 (ostE (arr := (ceC t.c (.slice v.aA t.c.os.length v.cA) (.slice v.aS t.c.sg.length v.cS)).toArray) (e := 34) (L' := (b108, Obj.cells (SgD.c ⟨1, s⟩).toArray 63 (0, 0)) :: ((b17, Obj.cells (u8s K).toArray 31 (0, 0)) :: ((b15, Obj.cells (u8s K).toArray 31 (0, 0)) :: ((b9, Obj.cells (u8s M).toArray 31 (0, 0)) :: ((b7, Obj.cells (u8s M).toArray 31 (0, 0)) :: ((b5, Obj.cells S.toArray 53 (0, 0)) :: ((b3, Obj.cells F.toArray 41 (0, 0)) :: []))))))) (ceC t.c (.slice v.aA t.c.os.length v.cA) (.slice (some ⟨b108, 0, none⟩) 1 1)).toArray (hL := (perm_of fun f => by (simp only [List.map_append, List.map_cons, List.map_nil, List.sum_append, List.sum_cons, List.sum_nil] <;> omega))) (he := by exact hC20 _ _ _ _) (hf := by rw [hCs]; decide) (h1 := by exact one_s _ _ _)) (fun _ => ?_)
    have hCs2 : (ceC t.c (.slice v.aA t.c.os.length v.cA) (.slice (some ⟨b108, 0, none⟩) 1 1)).toArray.size = 21 := by rw [List.size_toArray]; exact hC _ _ _
    have kT1 := kT (some ⟨b108, 0, none⟩) 1 1
    refine x_ ?_
    refine Run.nw nal ?_
    intro b19
    refine x_ ?_
    refine Run.op1 (osa (arr := ti31.zero.cells) (e := 31) (L' := (b14, Obj.cells (ceC t.c (.slice v.aA t.c.os.length v.cA) (.slice (some ⟨b108, 0, none⟩) 1 1)).toArray 34 (0, 0)) :: ((b108, Obj.cells (SgD.c ⟨1, s⟩).toArray 63 (0, 0)) :: ((b17, Obj.cells (u8s K).toArray 31 (0, 0)) :: ((b15, Obj.cells (u8s K).toArray 31 (0, 0)) :: ((b9, Obj.cells (u8s M).toArray 31 (0, 0)) :: ((b7, Obj.cells (u8s M).toArray 31 (0, 0)) :: ((b5, Obj.cells S.toArray 53 (0, 0)) :: ((b3, Obj.cells F.toArray 41 (0, 0)) :: [])))))))) (u8s K).toArray (u8s_one K) (hL := (perm_of fun f => by (simp only [List.map_append, List.map_cons, List.map_nil, List.sum_append, List.sum_cons, List.sum_nil] <;> omega))) (hs := by exact hKs)) (fun _ => ?_)
    refine x_ ?_
    (repeat refine RC.seq ?_); refine RC.draw (((b19, Obj.cells (u8s K).toArray 31 (0, 0)) :: ((b17, Obj.cells (u8s K).toArray 31 (0, 0)) :: ((b15, Obj.cells (u8s K).toArray 31 (0, 0)) :: ((b3, Obj.cells F.toArray 41 (0, 0)) :: []))))) mixed (N := 42) rfl ?_
    refine DR.t 0 rfl (vla (arr := (u8s K).toArray) (hv := hKs) (hm := (by repeat (first | exact List.mem_cons_self | apply List.mem_cons_of_mem | apply List.mem_append_right)))) ?_
    refine DR.t 1 rfl (vla (arr := (u8s K).toArray) (hv := hKs) (hm := (by repeat (first | exact List.mem_cons_self | apply List.mem_cons_of_mem | apply List.mem_append_right)))) ?_
    refine DR.t 2 rfl (veu 8 K k8 (by kernel_rfl)) ?_
    refine dy 3 ?_
    refine dy 4 ?_
    refine dy 5 ?_
    refine DR.t 6 rfl (veb) ?_
    refine dy 7 ?_
    refine dy 8 ?_
    refine DR.t 9 rfl (vla (arr := (u8s K).toArray) (hv := hKs) (hm := (by repeat (first | exact List.mem_cons_self | apply List.mem_cons_of_mem | apply List.mem_append_right)))) ?_
    refine DR.t 10 rfl (vla (arr := (u8s K).toArray) (hv := hKs) (hm := (by repeat (first | exact List.mem_cons_self | apply List.mem_cons_of_mem | apply List.mem_append_right)))) ?_
    refine DR.t 11 rfl (veu 8 K k8 (by kernel_rfl)) ?_
    refine dy 12 ?_
    refine dy 13 ?_
    refine dy 14 ?_
    refine dy 15 ?_
    refine DR.t 16 rfl (veb) ?_
    refine dy 17 ?_
    refine dy 18 ?_
    refine dy 19 ?_
    refine dy 20 ?_
    refine dy 21 ?_
    refine dy 22 ?_
    refine dy 23 ?_
    refine dy 24 ?_
    refine dy 25 ?_
    refine dy 26 ?_
    refine dy 27 ?_
    refine dy 29 ?_
    refine dy 30 ?_
    refine dy 31 ?_
    refine dy 32 ?_
    refine dy 33 ?_
    refine dy 34 ?_
    refine dy 35 ?_
    refine dy 36 ?_
    refine dy 37 ?_
    obtain ⟨pa, hpa, hpl⟩ := and_le i 255 (by decide)
    obtain ⟨pb, hpb, hpm⟩ := and_le t.c.ep 1023 (by decide)
    rw [show IntKind.i64.wrap ((BitVec.ofInt IntKind.i64.bits i &&& BitVec.ofInt IntKind.i64.bits 255).toNat : Nat) = ((pa : Nat) : Int) from hpa, show IntKind.i64.wrap ((BitVec.ofInt IntKind.i64.bits t.c.ep &&& BitVec.ofInt IntKind.i64.bits 1023).toNat : Nat) = ((pb : Nat) : Int) from hpb]
    have kP1 := kP pa pb (by omega) (by omega)
    have kQ1 := kQ pa pb (by omega) (by omega)
    refine DR.c 28 (DOp.op1 rfl cvK (fun _ => ?_))
    refine DR.c 38 (DOp.op1 rfl cvK (fun _ => ?_))
    refine DR.t 39 rfl (veu 8 (digest 119 [[pa], le4 pb, t.c.en.1]) (digest_len _ _) (by kernel_rfl)) ?_
    refine dy 40 ?_
    refine dy 41 ?_
    refine DR.done (by kernel_rfl) ?_
    refine x_ ?_
    exact RQ.ret1 rfl (Res.tmp rfl) fun w' hm => ⟨rfl, hm.fr⟩
  rw [decide_eq_true hP] at kM kR
  generalize hF : txC t v = F at hFs cf kM kR ri rc rep ren hO ⊢
  generalize hS : s.c = S at hSs hsz ⊢
  obtain ⟨M, hM⟩ : ∃ M, M = msgH t i := ⟨_, rfl⟩
  rw [← hM] at h8 hMs kM kR
  refine z_ ?_
  refine Run.nw nbx ?_
  intro b3
  refine z_ ?_
  refine Run.nw nbx ?_
  intro b5
  refine x_ ?_
  refine Run.nw nal ?_
  intro b7
  refine x_ ?_
  refine Run.op1 (osa (arr := ti31.zero.cells) (e := 31) (L' := (b5, Obj.cells S.toArray 53 (0, 0)) :: ((b3, Obj.cells F.toArray 41 (0, 0)) :: [])) (u8s M).toArray (u8s_one M) (hL := (perm_of fun f => by (simp only [List.map_append, List.map_cons, List.map_nil, List.sum_append, List.sum_cons, List.sum_nil] <;> omega))) (hs := by exact hMs)) (fun _ => ?_)
  refine x_ ?_
  refine Run.nw nal ?_
  intro b9
  refine x_ ?_
  refine Run.op1 (osa (arr := ti31.zero.cells) (e := 31) (L' := (b7, Obj.cells (u8s M).toArray 31 (0, 0)) :: ((b5, Obj.cells S.toArray 53 (0, 0)) :: ((b3, Obj.cells F.toArray 41 (0, 0)) :: []))) (u8s M).toArray (u8s_one M) (hL := (perm_of fun f => by (simp only [List.map_append, List.map_cons, List.map_nil, List.sum_append, List.sum_cons, List.sum_nil] <;> omega))) (hs := by exact hMs)) (fun _ => ?_)
  refine x_ ?_
  refine Run.a (vnu 8 M h8 (by kernel_rfl)) ?_
  refine x_ ?_
  refine Run.a (Val.eq (Val.neBool (a := true) (b := true) tabOk rfl rfl rfl rfl rfl) (show _ = Value.bool false from rfl)) ?_
  obtain ⟨n, rfl⟩ := Int.eq_ofNat_of_zero_le hP.2.1.1
  have hn : n < t.is.length := by have := hP.2.1.2; omega
  obtain ⟨x, hx⟩ : ∃ x, t.is[n]? = some x := ⟨_, List.getElem?_eq_getElem hn⟩
  obtain ⟨hP2, hM2⟩ := msgH_set hP.2.2 hP.1 hx hz (n : Nat) hP
  have l1 := hln.1
  refine x_ ?_
  refine Run.nw nal ?_
  intro b11
  refine x_ ?_
  refine Run.op1 (osa (arr := ti41.zero.cells) (e := 41) (L' := (b9, Obj.cells (u8s M).toArray 31 (0, 0)) :: ((b7, Obj.cells (u8s M).toArray 31 (0, 0)) :: ((b5, Obj.cells S.toArray 53 (0, 0)) :: ((b3, Obj.cells F.toArray 41 (0, 0)) :: [])))) F.toArray (hO) (hL := (perm_of fun f => by (simp only [List.map_append, List.map_cons, List.map_nil, List.sum_append, List.sum_cons, List.sum_nil] <;> omega))) (hs := by exact hFs)) (fun _ => ?_)
  refine x_ ?_
  refine Run.nw (New.buildSlice tabOk (parts := []) (cells := #[]) rfl rfl rfl rfl rfl rfl (fillS_nil _ _)) ?_
  intro b70
  refine x_ ?_
  have h70 : Own 60 298 (.slice (some ⟨b70, 0, none⟩) 0 0) 0 [] [(b70, .cells #[] 60 (0, 0))] := Own.row b70 0 0 [] [] rfl rfl (Nat.le_refl _) (by unfold maxLen; decide)
  refine Run.op1 (OpTo.append (L1 := (b11, Obj.cells F.toArray 41 (0, 0)) :: ((b9, Obj.cells (u8s M).toArray 31 (0, 0)) :: ((b7, Obj.cells (u8s M).toArray 31 (0, 0)) :: ((b5, Obj.cells S.toArray 53 (0, 0)) :: ((b3, Obj.cells F.toArray 41 (0, 0)) :: []))))) tabOk h70 ht.i.src rfl rfl rfl rfl rfl rfl rfl rfl rfl (perm_of fun f => by (simp only [List.map_append, List.map_cons, List.map_nil, List.sum_append, List.sum_cons, List.sum_nil] <;> omega)) (rws_one' fun a _ => a.one) (by unfold maxLen; omega) (by simp only [ti60]; omega)) ?_
  rintro ⟨⟨v73, l73⟩, h73⟩
  dsimp only at h73 ⊢
  rw [Nat.zero_add, List.nil_append] at h73
  obtain ⟨b, cap, rest, rfl, rfl, hcap, hrl⟩ : ∃ b cap rest, v73 = .slice (some ⟨b, 0, none⟩) t.is.length cap ∧ l73 = [(b, .cells (rws InD.c t.is ++ rest).toArray 60 (0, 0))] ∧ t.is.length ≤ cap ∧ (rws InD.c t.is ++ rest).length = cap * 298 := by
    generalize hcs : rws InD.c t.is = cs at h73
    generalize hn : t.is.length = n at h73
    cases h73 with
    | nil => omega
    | row b n cap cs rest g1 g2 g3 g4 => exact ⟨b, cap, rest, rfl, rfl, g3, g2⟩
  obtain ⟨v', hv'⟩ : ∃ v', v' = v.toI b cap := ⟨_, rfl⟩
  obtain ⟨G, hG⟩ : ∃ G, G = txC t v' := ⟨_, rfl⟩
  have hGs : G.toArray.size = 170 := by rw [hG, List.size_toArray, txC_len]
  have gi : rdAt ti24 G.toArray 2 = some (.slice (some ⟨b, 0, none⟩) t.is.length cap) := by rw [hG, (tx_rd t v').i, hv']; rfl
  dsimp only [List.cons_append, List.nil_append]
  refine x_ ?_
  refine Run.op1 (ostE (arr := F.toArray) (e := 41) (L' := (b, .cells (rws InD.c t.is ++ rest).toArray 60 (0, 0)) :: ((b9, Obj.cells (u8s M).toArray 31 (0, 0)) :: ((b7, Obj.cells (u8s M).toArray 31 (0, 0)) :: ((b5, Obj.cells S.toArray 53 (0, 0)) :: ((b3, Obj.cells F.toArray 41 (0, 0)) :: []))))) G.toArray (hL := (perm_of fun f => by (simp only [List.map_append, List.map_cons, List.map_nil, List.sum_append, List.sum_cons, List.sum_nil] <;> omega))) (he := by rw [hG, hv', ← hF]; rfl) (hf := by rw [hFs]; decide) (h1 := by exact one_s _ _ _)) (fun _ => ?_)
  refine y_ ?_
  refine Run.a (vix n hn ⟨b, n * 298, none⟩) ?_
  refine y_ ?_
  refine Run.op1 (ostE (arr := (rws InD.c t.is ++ rest).toArray) (e := 60) (L' := (b11, Obj.cells G.toArray 41 (0, 0)) :: ((b9, Obj.cells (u8s M).toArray 31 (0, 0)) :: ((b7, Obj.cells (u8s M).toArray 31 (0, 0)) :: ((b5, Obj.cells S.toArray 53 (0, 0)) :: ((b3, Obj.cells F.toArray 41 (0, 0)) :: []))))) (rws InD.c (t.is.set n { x with s := s }) ++ rest).toArray (hL := (perm_of fun f => by (simp only [List.map_append, List.map_cons, List.map_nil, List.sum_append, List.sum_cons, List.sum_nil] <;> omega))) (hs := by exact hSs) (he := by rw [← hS]; exact wr_part InD.len { x with s := s } hx (A := x.pt ++ u8s x.key.1) (old := x.s.c) (new := s.c) (B := []) (by rw [x.c_pt, List.append_nil, List.append_assoc]) (by rw [List.append_nil, List.append_assoc]; exact InD.c_pt { x with s := s }) (by rw [SigD.len, SigD.len]) 17 (by rw [List.length_append, x.pt_len, u8s_len, x.key.2.1])) (hf := by rw [List.size_toArray, List.length_append, rws_len InD.len]; show n * 298 + 17 + 281 ≤ _; omega) (h1 := by intro u hu; rw [← hS] at hu; exact s.one u hu)) (fun _ => ?_)
  have kM2 : ∀ w', Fr [] w w' → w'.heap[b]? = some (.cells (rws InD.c (t.is.set n { x with s := s }) ++ rest).toArray 60 (0, 0)) → Gives Tryz.prog 11 [.agg G.toArray, .int .i64 (n : Nat)] (.tuple #[.agg (u8s M).toArray, .bool true]) w' := fun w' hf hb => by
    have h0 := ht.fr hf
    have hl' : TxLn { t with is := (t.is.set n { x with s := s }) } := ⟨by show (t.is.set n { x with s := s }).length ≤ 4096; rw [List.length_set]; exact l1, hln.2⟩
    have h := TMessage_calls { t with is := (t.is.set n { x with s := s }) } v' hl' (n : Nat) w' ⟨by
      rw [hv']
      show SrcW w' 298 (.slice (some ⟨b, 0, none⟩) (t.is.set n { x with s := s }).length cap) (t.is.set n { x with s := s }).length (rws InD.c (t.is.set n { x with s := s }))
      have hr := rws_len InD.len (t.is.set n { x with s := s })
      rw [List.length_set] at hr ⊢
      exact .at _ _ _ _ hr hcap (fun j u hj => by
        rw [add_lit, cell_of_row w' b (0 + j) _ _ _ hb, Nat.zero_add, List.getElem?_toArray, List.getElem?_append_left (List.getElem?_eq_some_iff.1 hj).1]
        exact hj), by rw [hv']; exact h0.o, by rw [hv']; exact h0.f, by rw [hv']; exact h0.k, by rw [hv']; exact h0.a, by rw [hv']; exact h0.s⟩ (hK.fr hf (by simp))
    rw [txC_set, ← hG, hM2, ← hM, decide_eq_true hP2] at h
    exact h
  refine x_ ?_
  refine Run.op1 (OpTo.cv Tryz.func11 (fun w' hm => kM2 w' hm.fr (hm.has (b, _) (by repeat (first | exact List.mem_cons_self | apply List.mem_cons_of_mem | apply List.mem_append_right))))) (fun _ => ?_)
  refine x_ ?_
  refine Run.nw nal ?_
  intro b12
  refine x_ ?_
  refine Run.op1 (osa (arr := ti31.zero.cells) (e := 31) (L' := (b, .cells (rws InD.c (t.is.set n { x with s := s }) ++ rest).toArray 60 (0, 0)) :: ((b11, Obj.cells G.toArray 41 (0, 0)) :: ((b9, Obj.cells (u8s M).toArray 31 (0, 0)) :: ((b7, Obj.cells (u8s M).toArray 31 (0, 0)) :: ((b5, Obj.cells S.toArray 53 (0, 0)) :: ((b3, Obj.cells F.toArray 41 (0, 0)) :: [])))))) (u8s M).toArray (u8s_one M) (hL := (perm_of fun f => by (simp only [List.map_append, List.map_cons, List.map_nil, List.sum_append, List.sum_cons, List.sum_nil] <;> omega))) (hs := by exact hMs)) (fun _ => ?_)
  refine x_ ?_
  refine Run.a (vnu 8 M h8 (by kernel_rfl)) ?_
  have hCs : (ceC t.c (.slice v.aA t.c.os.length v.cA) (.slice v.aS t.c.sg.length v.cS)).toArray.size = 21 := by rw [List.size_toArray]; exact hC _ _ _
  refine x_ ?_
  refine Run.nw nal ?_
  intro b14
  refine x_ ?_
  refine Run.op1 (osa (arr := ti34.zero.cells) (e := 34) (L' := (b12, Obj.cells (u8s M).toArray 31 (0, 0)) :: ((b, .cells (rws InD.c (t.is.set n { x with s := s }) ++ rest).toArray 60 (0, 0)) :: ((b11, Obj.cells G.toArray 41 (0, 0)) :: ((b9, Obj.cells (u8s M).toArray 31 (0, 0)) :: ((b7, Obj.cells (u8s M).toArray 31 (0, 0)) :: ((b5, Obj.cells S.toArray 53 (0, 0)) :: ((b3, Obj.cells F.toArray 41 (0, 0)) :: []))))))) (ceC t.c (.slice v.aA t.c.os.length v.cA) (.slice v.aS t.c.sg.length v.cS)).toArray (hC1 _ _ _) (hL := (perm_of fun f => by (simp only [List.map_append, List.map_cons, List.map_nil, List.sum_append, List.sum_cons, List.sum_nil] <;> omega))) (hs := by exact hCs)) (fun _ => ?_)
  have kT0 := kT v.aS t.c.sg.length v.cS
  refine x_ ?_
  refine Run.nw nal ?_
  intro b15
  refine x_ ?_
  refine Run.op1 (osa (arr := ti31.zero.cells) (e := 31) (L' := (b14, Obj.cells (ceC t.c (.slice v.aA t.c.os.length v.cA) (.slice v.aS t.c.sg.length v.cS)).toArray 34 (0, 0)) :: ((b12, Obj.cells (u8s M).toArray 31 (0, 0)) :: ((b, .cells (rws InD.c (t.is.set n { x with s := s }) ++ rest).toArray 60 (0, 0)) :: ((b11, Obj.cells G.toArray 41 (0, 0)) :: ((b9, Obj.cells (u8s M).toArray 31 (0, 0)) :: ((b7, Obj.cells (u8s M).toArray 31 (0, 0)) :: ((b5, Obj.cells S.toArray 53 (0, 0)) :: ((b3, Obj.cells F.toArray 41 (0, 0)) :: [])))))))) (u8s K).toArray (u8s_one K) (hL := (perm_of fun f => by (simp only [List.map_append, List.map_cons, List.map_nil, List.sum_append, List.sum_cons, List.sum_nil] <;> omega))) (hs := by exact hKs)) (fun _ => ?_)
  refine x_ ?_
  refine Run.nw nal ?_
  intro b17
  refine x_ ?_
  refine Run.op1 (osa (arr := ti31.zero.cells) (e := 31) (L' := (b15, Obj.cells (u8s K).toArray 31 (0, 0)) :: ((b14, Obj.cells (ceC t.c (.slice v.aA t.c.os.length v.cA) (.slice v.aS t.c.sg.length v.cS)).toArray 34 (0, 0)) :: ((b12, Obj.cells (u8s M).toArray 31 (0, 0)) :: ((b, .cells (rws InD.c (t.is.set n { x with s := s }) ++ rest).toArray 60 (0, 0)) :: ((b11, Obj.cells G.toArray 41 (0, 0)) :: ((b9, Obj.cells (u8s M).toArray 31 (0, 0)) :: ((b7, Obj.cells (u8s M).toArray 31 (0, 0)) :: ((b5, Obj.cells S.toArray 53 (0, 0)) :: ((b3, Obj.cells F.toArray 41 (0, 0)) :: []))))))))) (u8s K).toArray (u8s_one K) (hL := (perm_of fun f => by (simp only [List.map_append, List.map_cons, List.map_nil, List.sum_append, List.sum_cons, List.sum_nil] <;> omega))) (hs := by exact hKs)) (fun _ => ?_)
  refine x_ ?_
  refine Run.a (vbs (SgD.c ⟨1, s⟩).toArray (hf := by exact fill_two' (F := SgD.c ⟨1, s⟩) (a := 1) (b := 281) rfl rfl rfl (show S.toArray.size = 281 by exact hSs) (by decide) (by rw [← hS]; exact sg_fill s))) ?_
  refine Run.nw (nbsl (SgD.c ⟨1, s⟩).toArray (fillS_1 282 _ (SgD.c ⟨1, s⟩) (SgD.len _))) ?_
  intro b108
  refine x_ ?_
  refine Run.op1 (ostE (arr := (ceC t.c (.slice v.aA t.c.os.length v.cA) (.slice v.aS t.c.sg.length v.cS)).toArray) (e := 34) (L' := (b108, Obj.cells (SgD.c ⟨1, s⟩).toArray 63 (0, 0)) :: ((b17, Obj.cells (u8s K).toArray 31 (0, 0)) :: ((b15, Obj.cells (u8s K).toArray 31 (0, 0)) :: ((b12, Obj.cells (u8s M).toArray 31 (0, 0)) :: ((b, .cells (rws InD.c (t.is.set n { x with s := s }) ++ rest).toArray 60 (0, 0)) :: ((b11, Obj.cells G.toArray 41 (0, 0)) :: ((b9, Obj.cells (u8s M).toArray 31 (0, 0)) :: ((b7, Obj.cells (u8s M).toArray 31 (0, 0)) :: ((b5, Obj.cells S.toArray 53 (0, 0)) :: ((b3, Obj.cells F.toArray 41 (0, 0)) :: [])))))))))) (ceC t.c (.slice v.aA t.c.os.length v.cA) (.slice (some ⟨b108, 0, none⟩) 1 1)).toArray (hL := (perm_of fun f => by (simp only [List.map_append, List.map_cons, List.map_nil, List.sum_append, List.sum_cons, List.sum_nil] <;> omega))) (he := by exact hC20 _ _ _ _) (hf := by rw [hCs]; decide) (h1 := by exact one_s _ _ _)) (fun _ => ?_)
  have hCs2 : (ceC t.c (.slice v.aA t.c.os.length v.cA) (.slice (some ⟨b108, 0, none⟩) 1 1)).toArray.size = 21 := by rw [List.size_toArray]; exact hC _ _ _
  have kT1 := kT (some ⟨b108, 0, none⟩) 1 1
  refine x_ ?_
  refine Run.nw nal ?_
  intro b19
  refine x_ ?_
  refine Run.op1 (osa (arr := ti31.zero.cells) (e := 31) (L' := (b14, Obj.cells (ceC t.c (.slice v.aA t.c.os.length v.cA) (.slice (some ⟨b108, 0, none⟩) 1 1)).toArray 34 (0, 0)) :: ((b108, Obj.cells (SgD.c ⟨1, s⟩).toArray 63 (0, 0)) :: ((b17, Obj.cells (u8s K).toArray 31 (0, 0)) :: ((b15, Obj.cells (u8s K).toArray 31 (0, 0)) :: ((b12, Obj.cells (u8s M).toArray 31 (0, 0)) :: ((b, .cells (rws InD.c (t.is.set n { x with s := s }) ++ rest).toArray 60 (0, 0)) :: ((b11, Obj.cells G.toArray 41 (0, 0)) :: ((b9, Obj.cells (u8s M).toArray 31 (0, 0)) :: ((b7, Obj.cells (u8s M).toArray 31 (0, 0)) :: ((b5, Obj.cells S.toArray 53 (0, 0)) :: ((b3, Obj.cells F.toArray 41 (0, 0)) :: []))))))))))) (u8s K).toArray (u8s_one K) (hL := (perm_of fun f => by (simp only [List.map_append, List.map_cons, List.map_nil, List.sum_append, List.sum_cons, List.sum_nil] <;> omega))) (hs := by exact hKs)) (fun _ => ?_)
  refine x_ ?_
  (repeat refine RC.seq ?_); refine RC.draw (((b19, Obj.cells (u8s K).toArray 31 (0, 0)) :: ((b17, Obj.cells (u8s K).toArray 31 (0, 0)) :: ((b15, Obj.cells (u8s K).toArray 31 (0, 0)) :: ((b3, Obj.cells F.toArray 41 (0, 0)) :: []))))) mixed (N := 42) rfl ?_
  refine DR.t 0 rfl (vla (arr := (u8s K).toArray) (hv := hKs) (hm := (by repeat (first | exact List.mem_cons_self | apply List.mem_cons_of_mem | apply List.mem_append_right)))) ?_
  refine DR.t 1 rfl (vla (arr := (u8s K).toArray) (hv := hKs) (hm := (by repeat (first | exact List.mem_cons_self | apply List.mem_cons_of_mem | apply List.mem_append_right)))) ?_
  refine DR.t 2 rfl (veu 8 K k8 (by kernel_rfl)) ?_
  refine dy 3 ?_
  refine dy 4 ?_
  refine dy 5 ?_
  refine DR.t 6 rfl (veb) ?_
  refine dy 7 ?_
  refine dy 8 ?_
  refine DR.t 9 rfl (vla (arr := (u8s K).toArray) (hv := hKs) (hm := (by repeat (first | exact List.mem_cons_self | apply List.mem_cons_of_mem | apply List.mem_append_right)))) ?_
  refine DR.t 10 rfl (vla (arr := (u8s K).toArray) (hv := hKs) (hm := (by repeat (first | exact List.mem_cons_self | apply List.mem_cons_of_mem | apply List.mem_append_right)))) ?_
  refine DR.t 11 rfl (veu 8 K k8 (by kernel_rfl)) ?_
  refine dy 12 ?_
  refine dy 13 ?_
  refine dy 14 ?_
  refine dy 15 ?_
  refine DR.t 16 rfl (veb) ?_
  refine dy 17 ?_
  refine dy 18 ?_
  refine dy 19 ?_
  refine dy 20 ?_
  refine dy 21 ?_
  refine dy 22 ?_
  refine dy 23 ?_
  refine dy 24 ?_
  refine dy 25 ?_
  refine dy 26 ?_
  refine dy 27 ?_
  refine dy 29 ?_
  refine dy 30 ?_
  refine dy 31 ?_
  refine dy 32 ?_
  refine dy 33 ?_
  refine dy 34 ?_
  refine dy 35 ?_
  refine dy 36 ?_
  refine dy 37 ?_
  obtain ⟨pa, hpa, hpl⟩ := and_le (n : Nat) 255 (by decide)
  obtain ⟨pb, hpb, hpm⟩ := and_le t.c.ep 1023 (by decide)
  rw [show IntKind.i64.wrap ((BitVec.ofInt IntKind.i64.bits (n : Nat) &&& BitVec.ofInt IntKind.i64.bits 255).toNat : Nat) = ((pa : Nat) : Int) from hpa, show IntKind.i64.wrap ((BitVec.ofInt IntKind.i64.bits t.c.ep &&& BitVec.ofInt IntKind.i64.bits 1023).toNat : Nat) = ((pb : Nat) : Int) from hpb]
  have kP1 := kP pa pb (by omega) (by omega)
  have kQ1 := kQ pa pb (by omega) (by omega)
  refine DR.c 28 (DOp.op1 rfl cvK (fun _ => ?_))
  refine DR.c 38 (DOp.op1 rfl cvK (fun _ => ?_))
  refine DR.t 39 rfl (veu 8 (digest 119 [[pa], le4 pb, t.c.en.1]) (digest_len _ _) (by kernel_rfl)) ?_
  refine dy 40 ?_
  refine dy 41 ?_
  refine DR.done (by kernel_rfl) ?_
  refine x_ ?_
  exact RQ.ret1 rfl (Res.tmp rfl) fun w' hm => ⟨rfl, hm.fr⟩
end Go.Proofs.YtmajfapnbchecaaGreatDoor
