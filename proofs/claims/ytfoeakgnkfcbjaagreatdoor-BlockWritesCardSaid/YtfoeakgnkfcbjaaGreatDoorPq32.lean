/- Lemmas. -/
import Derived.Test.YtfoeakgnkfcbjaaGreatDoorPq31
set_option linter.unusedSimpArgs false
set_option linter.unusedVariables false
section
/- block: Decode. -/
namespace Go.Proofs.YtfoeakgnkfcbjaaGreatDoor
attribute [local irreducible] Go.Vc.Run Go.Vc.RC Go.Vc.RQ Go.Vc.DR Go.Vc.DOp Go.Vc.Knows Go.Vc.At
set_option maxHeartbeats 400000
set_option maxRecDepth 10000
open Go Go.Vc Go.Sha
/-- The same block, wherever its lists lie. -/
structure Key (a b : BkV) : Prop where
  p : a.pv = b.pv
  w : a.wk = b.wk
  t : a.ts.map (·.1) = b.ts.map (·.1)
theorem Key.len {a b : BkV} (h : Key a b) : a.ts.length = b.ts.length := by have := congrArg List.length h.t; simpa using this
theorem Key.symm {a b : BkV} (h : Key a b) : Key b a := ⟨h.p.symm, h.w.symm, h.t.symm⟩
theorem Key.at {a b : BkV} (h : Key a b) {i : Nat} {q : TxP} (hq : a.ts[i]? = some q) : ∃ q', b.ts[i]? = some q' ∧ q'.1 = q.1 := by
  have h1 : (a.ts.map (·.1))[i]? = (b.ts.map (·.1))[i]? := by rw [h.t]
  rw [List.getElem?_map, List.getElem?_map, hq] at h1
  cases hb : b.ts[i]? with
  | none => rw [hb] at h1; cases h1
  | some q' => rw [hb] at h1; exact ⟨q', rfl, (Option.some.inj h1).symm⟩
theorem Key.may1 {a b : BkV} (h : Key a b) (hm : MayB a) : MayB b := ⟨by rw [← h.w]; exact hm.1, by rw [← h.len]; exact hm.2.1, fun i q hq => by
  obtain ⟨q', h1, h2⟩ := h.symm.at hq
  have := hm.2.2 i q' h1
  rw [h2] at this
  exact this⟩
theorem Key.may {a b : BkV} (h : Key a b) : MayB a ↔ MayB b := ⟨h.may1, h.symm.may1⟩
theorem Key.by {a b : BkV} (h : Key a b) : bkB a = bkB b := by
  have e : ∀ l : List TxP, txsB l = ((l.map (·.1)).map txB).flatten := fun l => by unfold txsB; rw [List.map_map]; rfl
  unfold bkB
  rw [h.p, h.w, h.len, e, e, h.t]
theorem Key.root {a b : BkV} (h : Key a b) : rootB a = rootB b := by
  have e : ∀ l : List TxP, idL l = (l.map (·.1)).map (fun t => dgH 120 t []) := fun l => by unfold idL; rw [List.map_map]; rfl
  unfold rootB
  rw [e, e, h.t]
  by_cases hm : MayB b
  · rw [if_pos hm, if_pos (h.may.2 hm)]
  · rw [if_neg hm, if_neg fun q => hm (h.may.1 q)]
theorem Key.id {a b : BkV} (h : Key a b) : idB a = idB b := by
  unfold idB
  rw [h.p, h.w, h.root]
  by_cases hm : MayB b
  · rw [if_pos hm, if_pos (h.may.2 hm)]
  · rw [if_neg hm, if_neg fun q => hm (h.may.1 q)]
theorem num8_64 (q : By 8) : num8 q.1 < 18446744073709551616 := by have := num8_lt q.1 q.2.2; rw [q.2.1] at this; exact this
noncomputable def kOf (p q : By 8) (rows : List (List Nat)) : BkV := ⟨p, num8 q.1, num8_64 q, rows.map fun x => (decT x, TxV.z)⟩
/-- What Decode hands back. -/
noncomputable def dkE (l : List Nat) : Int := match pBk l with
  | none => 2
  | some ((p, q, rows), r) => if r = [] ∧ MayB (kOf p q rows) ∧ bkB (kOf p q rows) = l then 0 else 4
noncomputable def dkB (l : List Nat) : BkV := match pBk l with
  | none => BkV.nul
  | some ((p, q, rows), r) => if r = [] ∧ MayB (kOf p q rows) ∧ bkB (kOf p q rows) = l then kOf p q rows else BkV.nul
theorem decE_nul {x : List Nat} (hl : x.length ≤ 131072) (h : decE x ≠ 0) : decT x = TxD.nul 0 := by
  unfold decE at h
  rw [if_neg (by omega)] at h
  unfold decT
  rcases hp : pTx x with _ | ⟨t, r⟩
  · rfl
  · rw [hp] at h
    dsimp only at h ⊢
    by_cases hc : r ≠ [] ∨ ¬ TxMay t
    · rw [if_pos hc]
    · rw [if_neg hc] at h
      exact absurd rfl h
theorem nul_no : ¬ TxMay (TxD.nul 0) := fun h => by
  have := h.has.1.1
  exact absurd this (by show ¬ (1 : Int) ≤ 0; decide)
/-- Where one transaction was none, the block may not be. -/
theorem bad_no {rows : List (List Nat)} {b : BkV} (hl : ∀ x ∈ rows, x.length ≤ 131072) (ht : b.ts.map (·.1) = rows.map decT) (h : badL rows = true) : ¬ MayB b := fun hm => by
  unfold badL at h
  obtain ⟨x, hx, hd⟩ := List.any_eq_true.1 h
  have h1 := decE_nul (hl x hx) (of_decide_eq_true hd)
  have h2 : decT x ∈ b.ts.map (·.1) := by rw [ht]; exact List.mem_map_of_mem hx
  obtain ⟨q, hq, e⟩ := List.mem_map.1 h2
  have h3 := may_all hm q hq
  rw [e, h1] at h3
  exact nul_no h3
theorem good_bk : Good pBk bkE (fun x => x.2.2.length < 256 ∧ ∀ y ∈ x.2.2, bytR y) := by
  have hE : ∀ y, bytR y → Bt (bytE y) := fun y hy => by
    unfold bytE
    exact fun z hz => (List.mem_append.1 hz).elim (fun h => le_lt _ _ z h) (fun h => hy.2 z h)
  have g1 := good_Byt.row hE
  have hrow : ∀ xs : List (List Nat), (xs.length < 256 ∧ ∀ y ∈ xs, bytR y) → Bt (rowB bytE xs) := fun xs hx => by
    unfold rowB
    intro z hz
    rcases List.mem_append.1 hz with hz | hz
    · exact le_lt _ _ z hz
    · obtain ⟨m, hm, hz⟩ := List.mem_flatten.1 hz
      obtain ⟨y, hy, rfl⟩ := List.mem_map.1 hm
      exact hE y (hx.2 y hy) z hz
  have g2 := (good_B 8).and g1 hrow
  have g3 := (good_B 8).and g2 (fun y hy => fun z hz => (List.mem_append.1 hz).elim (fun h => y.1.2.2 z h) (fun h => hrow y.2 hy.2 z h))
  refine ⟨fun x r hx hr => ?_, fun l x r hl h => ?_⟩
  · exact g3.a x r ⟨trivial, trivial, hx⟩ hr
  · obtain ⟨h1, h2⟩ := g3.b l x r hl h
    exact ⟨h1, h2.2.2⟩
/-- A block of one's own. -/
structure DecY (l : List Nat) where
  b : BkV
  a : Option Addr
  c : Nat
  bl : Hp
  key : Key b (dkB l)
  hat : ∀ w, Has bl w → BkAt w b a c
  ln : BkLn b
def DecY.nul {l : List Nat} (h : dkB l = BkV.nul) : DecY l := ⟨BkV.nul, none, 0, [], by rw [h]; exact ⟨rfl, rfl, rfl⟩, fun _ _ => ⟨.nil, fun q hq => by cases hq⟩, fun q hq => by cases hq⟩
theorem rows_len {l : List Nat} (hb : Bt l) (hl : l.length ≤ 131072) {p q : By 8} {rows : List (List Nat)} {r : List Nat} (h : pBk l = some ((p, q, rows), r)) : ∀ x ∈ rows, x.length ≤ 131072 := fun x hx => by
  have e := (good_bk.b l _ r hb h).1
  have h1 : x.length ≤ (rowB bytE rows).length := by
    unfold rowB
    rw [List.length_append]
    have h2 : ∀ L : List (List Nat), x ∈ L → x.length ≤ ((L.map bytE).flatten).length := fun L => by
      induction L with
      | nil => intro h; cases h
      | cons y L ih =>
        intro h
        rw [List.map_cons, List.flatten_cons, List.length_append]
        rcases List.mem_cons.1 h with rfl | h
        · unfold bytE; rw [List.length_append]; omega
        · have := ih h; omega
    have := h2 rows hx
    omega
  have h3 := congrArg List.length e
  unfold bkE at h3
  simp only [List.length_append] at h3
  omega
set_option maxRecDepth 10000 in set_option maxHeartbeats 4000000 in
theorem DecBk_calls (l : List Nat) (hl : l.length ≤ 131072) (hb : Bt l) (v : Value) (w : World) (hs : SrcW w 1 v l.length (u8s l)) :
    Turns Tryz.prog 17 [v] w [] (Y := DecY l) (fun y => .tuple #[.agg (bkC y.b y.a y.c).toArray, .int .i64 (dkE l)]) (fun y => y.bl) := by
  refine enter Tryz.func17 rfl (Mem.nil w []) rfl ?_
  obtain ⟨a, c, rfl, hc⟩ := hs.shape
  have hsl : SrcW w 1 (.slice a l.length l.length) l.length (u8s l) := hs.cap
  have hI0 : ∀ w', Fr [] w w' → ∀ X : List Nat, (∀ b ∈ X, w.heap.size ≤ b) → InB w' X a l := fun w' hf X hX => ⟨hl, hb, hsl.fr hf, fun h0 ad he hin => by
    obtain ⟨ad', c', hv, _, hcl, hr⟩ := hsl.pos h0
    subst he
    cases hv
    have h1 := World.block_lt_of_cell? w _ (hr 0 _ (List.getElem?_eq_getElem (by rw [hcl]; omega)))
    rw [add_block] at h1
    have := hX _ hin
    omega⟩
  have hl0 : RdS a l l = RdC a l.length 0 := by unfold RdS; rw [Nat.sub_self]
  have hN10 : ∀ b a c, (bkC b a c).toArray.size = ti27.size := fun b a c => by rw [List.size_toArray, bkC_len]; rfl
  have hnul : ∀ e : Int, dkB l = BkV.nul → dkE l = e → ∀ w' L1, Mem w [] L1 w' → ∃ y' : DecY l, Ending.returned (.tuple #[.agg (bkC BkV.nul none 0).toArray, .int .i64 e]) = Ending.returned (.tuple #[.agg (bkC y'.b y'.a y'.c).toArray, .int .i64 (dkE l)]) ∧ Fr (([] : Hp).map (·.1)) w w' ∧ Has y'.bl w' ∧ (∀ p ∈ y'.bl, w.heap.size ≤ p.1 ∨ p.1 ∈ ([] : Hp).map (·.1)) ∧ (y'.bl.map (·.1)).Nodup := fun e h1 h2 w' L1 hm => by
    rw [h2]
    exact Turns.of (Y := DecY l) (V := fun y => .tuple #[.agg (bkC y.b y.a y.c).toArray, .int .i64 e]) (L' := fun y => y.bl) (Lst := []) (DecY.nul h1) hm (Lr := L1) (List.Perm.refl _)
  refine z_ ?_
  refine Run.nw nal ?_
  intro b2
  refine x_ ?_
  refine Run.nw nal ?_
  intro b4
  refine x_ ?_
  refine Run.nw nal ?_
  intro b5
  refine x_ ?_
  refine Run.op1 (ostE (arr := ti4.zero.cells) (e := 4) (L' := [(b4, Obj.cells ti27.zero.cells 27 (0, 0)), (b2, Obj.cells ti27.zero.cells 27 (0, 0))]) #[.bool false] (hL := (perm_of fun f => by (simp only [List.map_append, List.map_cons, List.map_nil, List.sum_append, List.sum_cons, List.sum_nil] <;> omega))) (he := by rfl) (hf := by decide) (h1 := by exact one_bB _)) (fun _ => ?_)
  refine x_ ?_
  refine Run.a (Val.mkFn (fs := []) (cs := [.tmp 4, .tmp 5])) ?_
  refine runPerm (L' := [(b4, Obj.cells (bkC BkV.nul none 0).toArray 27 (0, 0)), (b5, Obj.cells #[.bool false] 4 (0, 0)), (b2, Obj.cells (bkC BkV.nul none 0).toArray 27 (0, 0))]) (by rw [← bk_zero]; exact (perm_of fun f => by (simp only [List.map_append, List.map_cons, List.map_nil, List.sum_append, List.sum_cons, List.sum_nil] <;> omega))) ?_
  have hpR : ([(b4, Obj.cells (bkC BkV.nul none 0).toArray 27 (0, 0)), (b5, Obj.cells #[.bool false] 4 (0, 0)), (b2, Obj.cells (bkC BkV.nul none 0).toArray 27 (0, 0))] : Hp).Perm ([(b4, Obj.cells (bkC BkV.nul none 0).toArray 27 (0, 0)), (b5, Obj.cells #[.bool false] 4 (0, 0))] ++ [(b2, Obj.cells (bkC BkV.nul none 0).toArray 27 (0, 0))]) := List.Perm.refl _
  have hRd : ∀ w', Mem w [] [(b4, Obj.cells (bkC BkV.nul none 0).toArray 27 (0, 0)), (b5, Obj.cells #[.bool false] 4 (0, 0)), (b2, Obj.cells (bkC BkV.nul none 0).toArray 27 (0, 0))] w' → Turns Tryz.prog 40 [.slice a l.length c, .func (.func 41) #[] #[.pointer (some ⟨b4, 0, none⟩), .pointer (some ⟨b5, 0, none⟩)]] w' [(b4, Obj.cells (bkC BkV.nul none 0).toArray 27 (0, 0)), (b5, Obj.cells #[.bool false] 4 (0, 0))] (Y := DkO l) (fun y => .int .i64 (readE y.o l.length y.k)) (fun y => y.L b4 b5) := fun w' hm =>
    DReadF_calls a l.length c hl hc Tryz.func41 rfl rfl [.pointer (some ⟨b4, 0, none⟩), .pointer (some ⟨b5, 0, none⟩)] w' [(b4, Obj.cells (bkC BkV.nul none 0).toArray 27 (0, 0)), (b5, Obj.cells #[.bool false] 4 (0, 0))] (hasFs hpR hm).1 (hasFs hpR hm).2 (Y := DkO l) (o := DkO.o) (k := DkO.k) (L' := fun y => y.L b4 b5) (fun y => by cases y with
      | short k hk h => exact hk
      | read d => exact Nat.sub_le _ _) (fun y pv h => by cases y with
      | short k hk hn => cases h; rfl
      | read d => cases h) (fun rb w'' hf hrb hA hN => by
      rw [← hl0] at hA hN ⊢
      refine dk1_calls l a rb b4 b5 w'' (hI0 w'' (hm.fr.trans hf) _ (fun b hb => ?_)) hA hN
      have h5 := hm.fr.size
      have h4 := hm.own (b4, Obj.cells (bkC BkV.nul none 0).toArray 27 (0, 0)) List.mem_cons_self
      have h6 := hm.own (b5, Obj.cells #[.bool false] 4 (0, 0)) (List.mem_cons_of_mem _ List.mem_cons_self)
      rcases List.mem_cons.1 hb with rfl | hb
      · exact Nat.le_trans h5 hrb
      rcases List.mem_cons.1 hb with rfl | hb
      · exact h4.resolve_right (by simp)
      · rw [List.mem_singleton.1 hb]; exact h6.resolve_right (by simp))
  refine Run.op1 (OpTo.callT Tryz.func40 hpR hRd) ?_
  intro y
  cases y with
  | short k hk hn =>
    have hT : dkB l = BkV.nul := by unfold dkB; rw [hn]
    have hE : dkE l = 2 := by unfold dkE; rw [hn]
    dsimp only [DkO.o, DkO.k, DkO.L, readE]
    rw [if_pos rfl]
    refine x_ ?_
    refine Run.op1 (osa (arr := (bkC BkV.nul none 0).toArray) (e := 27) (L' := []) (bkC BkV.nul none 0).toArray (bkC_one _ _ _) (hL := (perm_of fun f => by (simp only [List.map_append, List.map_cons, List.map_nil, List.sum_append, List.sum_cons, List.sum_nil] <;> omega))) (hs := by exact hN10 _ _ _) (hf := by exact (hN10 _ _ _).symm)) (fun _ => ?_)
    refine x_ ?_
    exact RQ.ret2 rfl (Res.cellAll tabOk rfl rfl rfl m0 (hN10 _ _ _)) (Res.tmp rfl) fun w' hm => hnul 2 hT hE w' _ hm
  | read d =>
    dsimp only [DkO.o, DkO.k, DkO.L, readE, List.cons_append]
    have hdh := d.h
    by_cases hr0 : d.r = []
    rotate_left
    · have hT : dkB l = BkV.nul := by unfold dkB; rw [hdh]; exact if_neg fun h => hr0 h.1
      have hE : dkE l = 4 := by unfold dkE; rw [hdh]; exact if_neg fun h => hr0 h.1
      have hr1 : 0 < d.r.length := List.length_pos_iff.2 hr0
      have hrl : d.r.length ≤ l.length := by
        have := congrArg List.length (good_bk.b l _ d.r hb hdh).1
        rw [List.length_append] at this
        omega
      rw [if_pos (by omega)]
      refine x_ ?_
      refine Run.op1 (osa (arr := (bkC BkV.nul none 0).toArray) (e := 27) (L' := (b4, Obj.cells (bkC d.b d.a d.c).toArray 27 (0, 0)) :: ((b5, Obj.cells #[.bool (badL d.rows)] 4 (0, 0)) :: (d.L5 ++ d.pool))) (bkC BkV.nul none 0).toArray (bkC_one _ _ _) (hL := (perm_of fun f => by (simp only [List.map_append, List.map_cons, List.map_nil, List.sum_append, List.sum_cons, List.sum_nil] <;> omega))) (hs := by exact hN10 _ _ _) (hf := by exact (hN10 _ _ _).symm)) (fun _ => ?_)
      refine x_ ?_
      exact RQ.ret2 rfl (Res.cellAll tabOk rfl rfl rfl m0 (hN10 _ _ _)) (Res.tmp rfl) fun w' hm => hnul 4 hT hE w' _ hm
    rw [if_neg (by rw [hr0, List.length_nil]; omega)]
    have hkey : Key d.b (kOf d.p d.q d.rows) := ⟨d.hp, d.hq, by rw [d.ht]; unfold kOf; rw [List.map_map]; rfl⟩
    have hat : ∀ w', Has d.L5 w' → Has d.pool w' → BkAt w' d.b d.a d.c := fun w' h1 h2 => ⟨d.own.srcW h1, d.hat w' h2⟩
    have hbln : BkLn d.b := fun z hz => by
      have h1 : z.1 ∈ d.b.ts.map (·.1) := List.mem_map_of_mem hz
      rw [d.ht] at h1
      obtain ⟨x, hx, e⟩ := List.mem_map.1 h1
      rw [← e]
      exact decT_ln (d.hbt x hx)
    have hF10 : (bkC d.b d.a d.c).toArray.size = 10 := by rw [List.size_toArray, bkC_len]
    refine x_ ?_
    have hz7 : ((b4, Obj.cells (bkC d.b d.a d.c).toArray 27 (0, 0)) :: ((b5, Obj.cells #[.bool (badL d.rows)] 4 (0, 0)) :: ((d.L5 ++ d.pool) ++ [(b2, Obj.cells (bkC BkV.nul none 0).toArray 27 (0, 0))])) : Hp).Perm ([] ++ ((b4, Obj.cells (bkC d.b d.a d.c).toArray 27 (0, 0)) :: ((b5, Obj.cells #[.bool (badL d.rows)] 4 (0, 0)) :: ((d.L5 ++ d.pool) ++ [(b2, Obj.cells (bkC BkV.nul none 0).toArray 27 (0, 0))])))) := List.Perm.refl _
    refine Run.op1 (OpTo.callT Tryz.func38 hz7 (fun w' hm => written_calls d.b hbln d.a d.c w' (hat w' (fun p hp => hm.has p (List.mem_cons_of_mem _ (List.mem_cons_of_mem _ (List.mem_append_left _ (List.mem_append_left _ hp))))) (fun p hp => hm.has p (List.mem_cons_of_mem _ (List.mem_cons_of_mem _ (List.mem_append_left _ (List.mem_append_right _ hp)))))))) ?_
    rintro ⟨⟨v17, l17⟩, h17⟩
    dsimp only at h17 ⊢
    have hno : ¬ (MayB d.b ∧ bkB d.b = l) → dkB l = BkV.nul ∧ dkE l = 4 := fun hn => by
      have hn' : ¬ (d.r = [] ∧ MayB (kOf d.p d.q d.rows) ∧ bkB (kOf d.p d.q d.rows) = l) := fun h => hn ⟨hkey.may.2 h.2.1, by rw [hkey.by]; exact h.2.2⟩
      constructor
      · unfold dkB; rw [hdh]; exact if_neg hn'
      · unfold dkE; rw [hdh]; exact if_neg hn'
    by_cases hM : MayB d.b
    rotate_left
    · obtain ⟨hT, hE⟩ := hno (fun h => hM h.1)
      rw [decide_eq_false hM]
      cases hbd : badL d.rows
      · refine x_ ?_
        refine Run.op1 (osa (arr := (bkC BkV.nul none 0).toArray) (e := 27) (L' := l17 ++ ((b4, Obj.cells (bkC d.b d.a d.c).toArray 27 (0, 0)) :: ((b5, Obj.cells #[.bool false] 4 (0, 0)) :: (d.L5 ++ d.pool)))) (bkC BkV.nul none 0).toArray (bkC_one _ _ _) (hL := (perm_of fun f => by (simp only [List.map_append, List.map_cons, List.map_nil, List.sum_append, List.sum_cons, List.sum_nil] <;> omega))) (hs := by exact hN10 _ _ _) (hf := by exact (hN10 _ _ _).symm)) (fun _ => ?_)
        refine x_ ?_
        exact RQ.ret2 rfl (Res.cellAll tabOk rfl rfl rfl m0 (hN10 _ _ _)) (Res.tmp rfl) fun w' hm => hnul 4 hT hE w' _ hm
      · refine x_ ?_
        refine Run.op1 (osa (arr := (bkC BkV.nul none 0).toArray) (e := 27) (L' := l17 ++ ((b4, Obj.cells (bkC d.b d.a d.c).toArray 27 (0, 0)) :: ((b5, Obj.cells #[.bool true] 4 (0, 0)) :: (d.L5 ++ d.pool)))) (bkC BkV.nul none 0).toArray (bkC_one _ _ _) (hL := (perm_of fun f => by (simp only [List.map_append, List.map_cons, List.map_nil, List.sum_append, List.sum_cons, List.sum_nil] <;> omega))) (hs := by exact hN10 _ _ _) (hf := by exact (hN10 _ _ _).symm)) (fun _ => ?_)
        refine x_ ?_
        exact RQ.ret2 rfl (Res.cellAll tabOk rfl rfl rfl m0 (hN10 _ _ _)) (Res.tmp rfl) fun w' hm => hnul 4 hT hE w' _ hm
    have hbd : badL d.rows = false := by
      cases hq : badL d.rows
      · rfl
      · exact absurd hM (bad_no (rows_len hb hl hdh) d.ht hq)
    rw [hbd, decide_eq_true hM]
    rw [show wrB d.b = bkB d.b from if_pos hM] at h17
    refine x_ ?_
    refine Run.opG (Wanted.guard rfl rfl rfl rfl) (OpTo.cv Tryz.func39 (fun w' hm => Equal_calls (bkB d.b) l (bt_bk hM) hb v17 (.slice a l.length c) w' (h17.srcW (fun q hq => hm.has q (List.mem_append_left _ hq))) (hs.fr hm.fr))) (fun _ => ?_)
    by_cases he : bkB d.b = l
    rotate_left
    · obtain ⟨hT, hE⟩ := hno (fun h => he h.2)
      rw [decide_eq_false he]
      refine x_ ?_
      refine Run.op1 (osa (arr := (bkC BkV.nul none 0).toArray) (e := 27) (L' := l17 ++ ((b4, Obj.cells (bkC d.b d.a d.c).toArray 27 (0, 0)) :: ((b5, Obj.cells #[.bool false] 4 (0, 0)) :: (d.L5 ++ d.pool)))) (bkC BkV.nul none 0).toArray (bkC_one _ _ _) (hL := (perm_of fun f => by (simp only [List.map_append, List.map_cons, List.map_nil, List.sum_append, List.sum_cons, List.sum_nil] <;> omega))) (hs := by exact hN10 _ _ _) (hf := by exact (hN10 _ _ _).symm)) (fun _ => ?_)
      refine x_ ?_
      exact RQ.ret2 rfl (Res.cellAll tabOk rfl rfl rfl m0 (hN10 _ _ _)) (Res.tmp rfl) fun w' hm => hnul 4 hT hE w' _ hm
    have hyes : d.r = [] ∧ MayB (kOf d.p d.q d.rows) ∧ bkB (kOf d.p d.q d.rows) = l := ⟨hr0, hkey.may.1 hM, by rw [← hkey.by]; exact he⟩
    have hT : dkB l = kOf d.p d.q d.rows := by unfold dkB; rw [hdh]; exact if_pos hyes
    have hE : dkE l = 0 := by unfold dkE; rw [hdh]; exact if_pos hyes
    rw [decide_eq_true he]
    refine x_ ?_
    refine Run.op1 (osa (arr := (bkC BkV.nul none 0).toArray) (e := 27) (L' := l17 ++ ((b4, Obj.cells (bkC d.b d.a d.c).toArray 27 (0, 0)) :: ((b5, Obj.cells #[.bool false] 4 (0, 0)) :: (d.L5 ++ d.pool)))) (bkC d.b d.a d.c).toArray (bkC_one _ _ _) (hL := (perm_of fun f => by (simp only [List.map_append, List.map_cons, List.map_nil, List.sum_append, List.sum_cons, List.sum_nil] <;> omega))) (hs := by exact hN10 _ _ _) (hf := by exact (hN10 _ _ _).symm)) (fun _ => ?_)
    refine x_ ?_
    rw [hE]
    exact RQ.ret2 rfl (Res.cellAll tabOk rfl rfl rfl m0 (hN10 _ _ _)) (Res.tmp rfl) fun w' hm => Turns.of (Y := DecY l) (V := fun y => .tuple #[.agg (bkC y.b y.a y.c).toArray, .int .i64 0]) (L' := fun y => y.bl) (Lst := []) ⟨d.b, d.a, d.c, d.L5 ++ d.pool, by rw [hT]; exact hkey, fun w hw => hat w hw.left hw.right, hbln⟩ hm (Lr := (b2, Obj.cells (bkC d.b d.a d.c).toArray 27 (0, 0)) :: (l17 ++ [(b4, Obj.cells (bkC d.b d.a d.c).toArray 27 (0, 0)), (b5, Obj.cells #[.bool false] 4 (0, 0))])) (by dsimp only; exact (perm_of fun f => by (simp only [List.map_append, List.map_cons, List.map_nil, List.sum_append, List.sum_cons, List.sum_nil] <;> omega)))
end Go.Proofs.YtfoeakgnkfcbjaaGreatDoor
end
section
/- tx: awake, Few (gen_ty5.py prints it). -/
namespace Go.Proofs.YtfoeakgnkfcbjaaGreatDoor
attribute [local irreducible] Go.Vc.Run Go.Vc.RC Go.Vc.RQ Go.Vc.DR Go.Vc.DOp Go.Vc.Knows Go.Vc.At
set_option maxHeartbeats 400000
set_option maxRecDepth 10000
open Go Go.Vc Go.Sha
theorem dec_T {t : TxD} (h : TxMay t) : decT t.b = t := by
  unfold decT
  rw [(dec_back h).1]
  exact if_neg (by rintro (h' | h'); exact h' rfl; exact h' h)
def coin1 : TxD := tCoin 1 []
theorem may_coin1 : TxMay coin1 := .coin 1 [] (by decide) ⟨fun o ho => absurd ho (by simp), by decide⟩
theorem coin1_b : coin1.b = [1, 1, 0, 0, 0, 0] := rfl
theorem at_nul {w : World} : TxAt w coin1 TxV.z := ⟨.nil, .nil, .nil, .nil, .nil, .nil⟩
theorem ln_coin1 : TxLn coin1 := by unfold TxLn; decide
/-- Its lists are short. -/
def FewP (t : TxD) : Prop := t.is.length ≤ 20 ∧ t.os.length ≤ 40 ∧ t.fs.length ≤ 40 ∧ t.p.ks.length ≤ 20 ∧ t.c.os.length ≤ 40 ∧ t.c.sg.length ≤ 20
instance (t : TxD) : Decidable (FewP t) := by unfold FewP; infer_instance
theorem FewP.ln {t : TxD} (h : FewP t) : TxLn t := by
  obtain ⟨h1, h2, h3, h4, h5, h6⟩ := h
  exact ⟨by omega, by omega, by omega, by omega, by omega, by omega⟩
set_option maxRecDepth 10000 in set_option maxHeartbeats 4000000 in
theorem TFew_calls (t : TxD) (v : TxV) (w : World) : Gives Tryz.prog 30 [.agg (txC t v).toArray] (.bool (decide (FewP t))) w := by
  refine enter Tryz.func30 rfl (Mem.nil w []) rfl ?_
  obtain ⟨_, _, ri, ro, rf, _, rk, _, _, _, ra, rs, _⟩ := tx_rd t v
  have hmm : FewP t ↔ t.is.length ≤ 20 ∧ t.os.length ≤ 40 ∧ t.fs.length ≤ 40 ∧ t.p.ks.length ≤ 20 ∧ t.c.os.length ≤ 40 ∧ t.c.sg.length ≤ 20 := Iff.rfl
  have hno : ∀ (w' : World), Fr [] w w' → ¬ FewP t → Ending.returned (.bool false) = Ending.returned (.bool (decide (FewP t))) ∧ Fr [] w w' := fun w' hf h => ⟨by rw [decide_eq_false h], hf⟩
  generalize txC t v = F at ri ro rf rk ra rs ⊢
  refine x_ ?_
  refine Run.nw nbx ?_
  intro b1
  refine x_ ?_
  by_cases h0 : ¬ t.is.length ≤ 20
  · refine x_ ?_
    exact RQ.ret1 rfl (Res.tmp rfl) fun w' hm => hno w' hm.fr (fun h => by have := hmm.1 h; omega)
  refine x_ ?_
  by_cases h1 : ¬ t.os.length ≤ 40
  · refine x_ ?_
    exact RQ.ret1 rfl (Res.tmp rfl) fun w' hm => hno w' hm.fr (fun h => by have := hmm.1 h; omega)
  refine x_ ?_
  by_cases h2 : ¬ t.fs.length ≤ 40
  · refine x_ ?_
    exact RQ.ret1 rfl (Res.tmp rfl) fun w' hm => hno w' hm.fr (fun h => by have := hmm.1 h; omega)
  refine x_ ?_
  by_cases h3 : ¬ t.p.ks.length ≤ 20
  · refine x_ ?_
    exact RQ.ret1 rfl (Res.tmp rfl) fun w' hm => hno w' hm.fr (fun h => by have := hmm.1 h; omega)
  refine x_ ?_
  by_cases h4 : ¬ t.c.os.length ≤ 40
  · refine x_ ?_
    exact RQ.ret1 rfl (Res.tmp rfl) fun w' hm => hno w' hm.fr (fun h => by have := hmm.1 h; omega)
  refine x_ ?_
  have e : decide ((t.c.sg.length : Int) ≤ 20) = decide (FewP t) := decide_eq_decide.2 ⟨fun h => hmm.2 (by omega), fun h => by have := hmm.1 h; omega⟩
  exact RQ.ret1 rfl (Res.tmp rfl) fun w' hm => ⟨by rw [← e]; rfl, hm.fr⟩
end Go.Proofs.YtfoeakgnkfcbjaaGreatDoor

/- tx: the laws: TxWrites, TxCuts. -/
namespace Go.Proofs.YtfoeakgnkfcbjaaGreatDoor
attribute [local irreducible] Go.Vc.Run Go.Vc.RC Go.Vc.RQ Go.Vc.DR Go.Vc.DOp Go.Vc.Knows Go.Vc.At
set_option maxHeartbeats 400000
set_option maxRecDepth 10000
open Go Go.Vc Go.Sha
end Go.Proofs.YtfoeakgnkfcbjaaGreatDoor
end
section
/- block: the plain law of Decode; Few; awake. -/
namespace Go.Proofs.YtfoeakgnkfcbjaaGreatDoor
attribute [local irreducible] Go.Vc.Run Go.Vc.RC Go.Vc.RQ Go.Vc.DR Go.Vc.DOp Go.Vc.Knows Go.Vc.At
set_option maxHeartbeats 400000
set_option maxRecDepth 10000
open Go Go.Vc Go.Sha
theorem wk_bits {b : BkV} (h : MayB b) : bitsF b.wk = le b.wk 8 ∧ num8 (bitsF b.wk) = b.wk := by
  have hn : nanB b.wk = false := by
    have h1 : kindF (trP b.wk) b.wk = 5 := beq_iff_eq.1 h.1
    have := wk_ord h1
    unfold nanB
    rw [this]
    rfl
  have e : bitsF b.wk = le b.wk 8 := by unfold bitsF; rw [hn, if_neg (by decide)]
  exact ⟨e, by rw [e]; exact num8_leT 8 _ b.hw⟩
/-- What a block's bytes read as. -/
def bkX (b : BkV) : By 8 × By 8 × List (List Nat) := (b.pv, ⟨bitsF b.wk, bits_len _, bits_lt _⟩, b.ts.map fun q => q.1.b)
theorem bkX_E (b : BkV) : bkE (bkX b) = bkB b := by
  unfold bkE bkX bkB rowB txsB
  dsimp only
  rw [List.length_map, List.map_map]
  rfl
theorem bkX_R {b : BkV} (h : MayB b) : (bkX b).2.2.length < 256 ∧ ∀ y ∈ (bkX b).2.2, bytR y := by
  refine ⟨by show (b.ts.map _).length < 256; rw [List.length_map]; have := h.2.1; omega, fun y hy => ?_⟩
  obtain ⟨q, hq, rfl⟩ := List.mem_map.1 hy
  have hm := may_all h q hq
  have := hm.bl
  exact ⟨by omega, bt_tx hm⟩
theorem key_X {b : BkV} (h : MayB b) : Key (kOf (bkX b).1 (bkX b).2.1 (bkX b).2.2) b := by
  refine ⟨rfl, (wk_bits h).2, ?_⟩
  show ((b.ts.map fun q => q.1.b).map fun x => (decT x, TxV.z)).map (·.1) = b.ts.map (·.1)
  rw [List.map_map, List.map_map]
  apply List.map_congr_left
  intro q hq
  exact dec_T (may_all h q hq)
theorem dk_back {b : BkV} (h : MayB b) : dkE (bkB b) = 0 ∧ Key (dkB (bkB b)) b := by
  have h1 := good_bk.a (bkX b) [] (bkX_R h) (fun x hx => by cases hx)
  rw [List.append_nil, bkX_E] at h1
  have hk := key_X h
  have hc : ([] : List Nat) = [] ∧ MayB (kOf (bkX b).1 (bkX b).2.1 (bkX b).2.2) ∧ bkB (kOf (bkX b).1 (bkX b).2.1 (bkX b).2.2) = bkB b := ⟨rfl, hk.may.2 h, hk.by⟩
  constructor
  · unfold dkE
    rw [h1]
    exact if_pos hc
  · unfold dkB
    rw [h1]
    dsimp only
    rw [if_pos hc]
    exact hk
def FewK (b : BkV) : Prop := b.ts.length ≤ 40 ∧ ∀ q ∈ b.ts, FewP q.1
noncomputable instance (b : BkV) : Decidable (FewK b) := Classical.propDecidable _
theorem FewK.ln {b : BkV} (h : FewK b) : BkLn b := fun q hq => (h.2 q hq).ln
set_option maxRecDepth 10000 in set_option maxHeartbeats 4000000 in
theorem FewBk_calls (b : BkV) (a : Option Addr) (c : Nat) (w : World) (hat : BkAt w b a c) : Gives Tryz.prog 10 [.agg (bkC b a c).toArray] (.bool (decide (FewK b))) w := by
  refine enter Tryz.func10 rfl (Mem.nil w []) rfl ?_
  have r9 := bk_r9 b a c
  have hF10 : (bkC b a c).toArray.size = 10 := by rw [List.size_toArray, bkC_len]
  generalize bkC b a c = F at r9 hF10 ⊢
  have hno : ∀ (w' : World), Fr [] w w' → ¬ FewK b → Ending.returned (.bool false) = Ending.returned (.bool (decide (FewK b))) ∧ Fr [] w w' := fun w' hf h => ⟨by rw [decide_eq_false h], hf⟩
  refine z_ ?_
  refine Run.nw nbx ?_
  intro b1
  have hmem := hat.s
  obtain ⟨N, hN⟩ : ∃ N, N = b.ts.length := ⟨_, rfl⟩
  rw [← hN] at r9 hmem
  by_cases h40 : 40 < N
  · have hn : ¬ FewK b := fun h => by have := h.1; omega
    refine x_ ?_
    exact RQ.ret1 rfl (Res.tmp rfl) fun w' hm => hno w' hm.fr hn
  refine x_ ?_
  refine RC.up N (D := Unit) (fun k _ => ∀ q ∈ b.ts.take k, FewP q.1) (fun k _ => [(3, .int .i64 k), (1, .pointer (some ⟨b1, 0, none⟩))]) (fun _ _ => [(b1, Obj.cells F.toArray 27 (0, 0))]) 0 () (Nat.zero_le _) (fun q hq => by cases hq) ⟨rfl, rfl, trivial⟩ (List.Sublist.refl _) ?_
  intro k _ hk hok
  by_cases hk' : k < N
  · obtain ⟨q, hx⟩ : ∃ q, b.ts[k]? = some q := ⟨_, List.getElem?_eq_getElem (by omega)⟩
    obtain ⟨ad, c', hv', hc', hcl, hr⟩ := hmem.pos (by omega)
    cases hv'
    have q0 : At w (ad.add (k * 170)) (txC q.1 q.2) := At.mk fun j u hj => by rw [add_add]; exact hr _ u (rws_at txR_len hx j u hj)
    have hT170 : (txC q.1 q.2).length = 170 := txC_len _ _
    have kF : Knows Tryz.prog w 30 [.agg (txC q.1 q.2).toArray] (.bool (decide (FewP q.1))) := Knows.mk Tryz.func30 (fun w' hf => TFew_calls q.1 q.2 w')
    generalize txC q.1 q.2 = T at q0 hT170 kF
    by_cases hfp : FewP q.1
    · rw [decide_eq_true hfp] at kF
      refine x_ ?_
      exact RQ.up (k + 1) () (Nat.lt_succ_self _) hk' (fun p hp => by
        rw [List.take_add_one, hx] at hp
        rcases List.mem_append.1 hp with h | h
        · exact hok p h
        · rw [List.mem_singleton.1 h]; exact hfp) ⟨rfl, rfl, trivial⟩ (List.Sublist.refl _)
    · have hn : ¬ FewK b := fun h => hfp (h.2 q (List.mem_of_getElem? hx))
      rw [decide_eq_false hfp] at kF
      refine x_ ?_
      exact RQ.ret1 rfl (Res.tmp rfl) fun w' hm => hno w' hm.fr hn
  obtain rfl : k = N := by omega
  rw [List.take_of_length_le (by omega)] at hok
  have hyes : FewK b := ⟨by omega, hok⟩
  rw [decide_eq_true hyes]
  refine x_ ?_
  exact RQ.ret1 rfl (Res.tmp rfl) fun w' hm => ⟨rfl, hm.fr⟩
end Go.Proofs.YtfoeakgnkfcbjaaGreatDoor
end
section
/- block: awake. -/
namespace Go.Proofs.YtfoeakgnkfcbjaaGreatDoor
attribute [local irreducible] Go.Vc.Run Go.Vc.RC Go.Vc.RQ Go.Vc.DR Go.Vc.DOp Go.Vc.Knows Go.Vc.At
set_option maxHeartbeats 400000
set_option maxRecDepth 10000
open Go Go.Vc Go.Sha
theorem Key.trans {a b c : BkV} (h : Key a b) (k : Key b c) : Key a c := ⟨h.p.trans k.p, h.w.trans k.w, h.t.trans k.t⟩
def blk0 : BkV := ⟨⟨[1, 0, 0, 0, 0, 0, 0, 0], rfl, by decide⟩, 4613937818241073152, by decide, [(coin1, TxV.z)]⟩
theorem may_blk0 : MayB blk0 := ⟨by decide +kernel, ⟨by decide, by decide⟩, fun i q h => by
  cases i with
  | zero =>
    have : q = (coin1, TxV.z) := (Option.some.inj h).symm
    subst this
    exact ⟨may_coin1, ⟨fun _ => rfl, fun _ => rfl⟩⟩
  | succ i => cases h⟩
theorem ln_blk0 : BkLn blk0 := fun q hq => by
  rw [List.mem_singleton.1 hq]
  exact ln_coin1
theorem id_blk0 : idB blk0 ≠ List.replicate 8 0 := by
  unfold idB rootB
  rw [if_pos may_blk0, if_pos may_blk0]
  have e : idL blk0.ts = [digest 120 [[1, 1, 0, 0, 0, 0]]] := by
    show [dgH 120 coin1 []] = _
    rw [show dgH 120 coin1 [] = digest 120 [coin1.b] from if_pos may_coin1, coin1_b]
  rw [e, (wk_bits may_blk0).1]
  show digest 98 [[1, 0, 0, 0, 0, 0, 0, 0], le 4613937818241073152 8, rootOf [digest 120 [[1, 1, 0, 0, 0, 0]]]] ≠ _
  decide +kernel
set_option maxRecDepth 10000 in set_option maxHeartbeats 4000000 in
theorem awake17_calls (w : World) (hK : Laid w) : Gives Tryz.prog 9 [] (.bool true) w := by
  refine enter Tryz.func9 rfl (Mem.nil w []) rfl ?_
  have hT170 : (txC coin1 TxV.z).toArray.size = 170 := by rw [List.size_toArray, txC_len]
  refine x_ ?_
  refine Run.a (vba (u8s [1, 0, 0, 0, 0, 0, 0, 0]).toArray) ?_
  refine Run.a (vbs (txC coin1 TxV.z).toArray) ?_
  refine Run.nw (nbsl (parts := [(0, .tmp 9)]) (txC coin1 TxV.z).toArray (fillS_1 170 _ (txC coin1 TxV.z) (txC_len _ _))) ?_
  intro b10
  refine Run.a (vbs (bkC blk0 (some ⟨b10, 0, none⟩) 1).toArray) ?_
  refine x_ ?_
  refine Run.nw nal ?_
  intro b1
  have hF1 := bkC_one blk0 (some ⟨b10, 0, none⟩) 1
  have hF10 : (bkC blk0 (some ⟨b10, 0, none⟩) 1).toArray.size = 10 := by rw [List.size_toArray, bkC_len]
  refine x_ ?_
  refine Run.op1 (osa (arr := ti27.zero.cells) (bkC blk0 (some ⟨b10, 0, none⟩) 1).toArray hF1 (hs := by exact hF10)) (fun _ => ?_)
  refine x_ ?_
  have hA : ∀ {w' : World} {L0 : Hp}, Mem w [] L0 w' → (b10, Obj.cells (txC coin1 TxV.z).toArray 64 (0, 0)) ∈ L0 → BkAt w' blk0 (some ⟨b10, 0, none⟩) 1 := fun hm hin => ⟨by
    show SrcW _ 170 (.slice (some ⟨b10, 0, none⟩) 1 1) 1 (rws txR [(coin1, TxV.z)])
    rw [rws_one]
    exact SrcW.row hm (e := 64) (fz := (0, 0)) (cs := txC coin1 TxV.z) hin (by rw [txC_len]) (Nat.le_refl 1), fun q hq => by
    rw [List.mem_singleton.1 hq]
    exact at_nul⟩
  have hBl := bkB_len may_blk0
  obtain ⟨F, hF⟩ : ∃ F, F = bkC blk0 (some ⟨b10, 0, none⟩) 1 := ⟨_, rfl⟩
  obtain ⟨G, hG⟩ : ∃ G, G = txC coin1 TxV.z := ⟨_, rfl⟩
  have hEn := fun w' h => EncBk_calls blk0 ln_blk0 (some ⟨b10, 0, none⟩) 1 w' h
  unfold EncK at hEn
  rw [show ebE blk0 = 0 from if_pos may_blk0] at hEn
  have hSm := fun (y : DecY (bkB blk0)) w' h1 h2 => SameBk_calls blk0 y.b ln_blk0 y.ln (some ⟨b10, 0, none⟩) 1 y.a y.c w' h1 h2
  rw [← hF] at hF10 hEn hSm ⊢
  rw [← hG] at hA ⊢
  have hz1 : ([(b1, Obj.cells F.toArray 27 (0, 0)), (b10, Obj.cells G.toArray 64 (0, 0))] : Hp).Perm ([] ++ [(b1, Obj.cells F.toArray 27 (0, 0)), (b10, Obj.cells G.toArray 64 (0, 0))]) := List.Perm.refl _
  refine Run.op1 (OpTo.callT Tryz.func16 hz1 (fun w' hm => hEn w' (hA hm (List.mem_cons_of_mem _ List.mem_cons_self)))) ?_
  rintro ⟨⟨v2, l2⟩, h2⟩
  dsimp only at h2 ⊢
  rw [show wrB blk0 = bkB blk0 from if_pos may_blk0] at h2
  obtain ⟨a2, c2, rfl, hc2⟩ := h2.shape
  refine x_ ?_
  have hz2 : (l2 ++ [(b1, Obj.cells F.toArray 27 (0, 0)), (b10, Obj.cells G.toArray 64 (0, 0))] : Hp).Perm ([] ++ (l2 ++ [(b1, Obj.cells F.toArray 27 (0, 0)), (b10, Obj.cells G.toArray 64 (0, 0))])) := List.Perm.refl _
  refine Run.op1 (OpTo.callT Tryz.func17 hz2 (fun w' hm => DecBk_calls (bkB blk0) (by omega) (bt_bk may_blk0) (.slice a2 (bkB blk0).length c2) w' (h2.srcW (fun q hq => hm.has q (List.mem_append_left _ hq))))) ?_
  intro y
  rw [(dk_back may_blk0).1]
  have hk : Key y.b blk0 := y.key.trans (dk_back may_blk0).2
  have hmy := hk.may.2 may_blk0
  have hId := fun w' h1 h2 => IdBk_calls y.b y.ln y.a y.c w' h1 h2
  rw [decide_eq_true hmy, hk.id] at hId
  have hi8 := idB_len blk0
  have hin := id_blk0
  have hsm : SameK blk0 y.b := ⟨may_blk0, hmy, hk.by.symm⟩
  have hSy := hSm y
  rw [decide_eq_true hsm] at hSy
  have r8 := bk_r8 y.b y.a y.c
  rw [hk.w] at r8
  have hy10 : (bkC y.b y.a y.c).toArray.size = 10 := by rw [List.size_toArray, bkC_len]
  have hy1 := bkC_one y.b y.a y.c
  have hyat := y.hat
  have hybl : ∀ {w' : World} {L0 L1 : Hp}, Mem w [] (L0 ++ (y.bl ++ L1)) w' → Has y.bl w' := fun hm p hp => hm.has p (List.mem_append_right _ (List.mem_append_left _ hp))
  generalize bkC y.b y.a y.c = Y at r8 hy10 hy1 hId hSy ⊢
  generalize idB blk0 = D at hi8 hin hId
  have hDs : (u8s D).toArray.size = 8 := by rw [List.size_toArray, u8s_len, hi8]
  refine x_ ?_
  refine Run.nw nal ?_
  intro b4
  refine x_ ?_
  refine Run.op1 (osa (arr := ti27.zero.cells) Y.toArray hy1 (hs := by exact hy10)) (fun _ => ?_)
  refine x_ ?_
  refine Run.op1 (OpTo.cv Tryz.func11 (fun w' hm => hId w' (hyat w' (hybl (L0 := [_]) hm)) (hK.fr hm.fr (by simp)))) (fun _ => ?_)
  refine x_ ?_
  refine Run.nw nal ?_
  intro b6
  refine x_ ?_
  refine Run.op1 (osa (arr := ti23.zero.cells) (u8s D).toArray (u8s_one D) (hs := by rw [List.size_toArray, u8s_len, hi8]; rfl)) (fun _ => ?_)
  refine x_ ?_
  refine Run.opG (Wanted.guard rfl rfl rfl rfl) (OpTo.cv Tryz.func15 (fun w' hm => hSy w' (hA hm (List.mem_cons_of_mem _ (List.mem_cons_of_mem _ (List.mem_append_right _ (List.mem_append_right _ (List.mem_cons_of_mem _ List.mem_cons_self)))))) (hyat w' (hybl (L0 := [_, _]) hm)))) (fun _ => ?_)
  refine x_ ?_
  refine Run.a (Val.eq (Val.neU (m := 8) (a := D) (b := List.replicate 8 0) tabOk rfl rfl rfl (by kernel_rfl) (by kernel_rfl) rfl rfl hi8 rfl) (show _ = Value.bool true from by rw [decide_eq_false hin]; rfl)) ?_
  refine x_ ?_
  refine Run.a Val.feql ?_
  rw [show (Ieee.double.order blk0.wk 4613937818241073152 == some .eq) = true from by decide +kernel]
  refine x_ ?_
  exact RQ.ret1 rfl (Res.tmp rfl) fun w' hm => ⟨rfl, hm.fr⟩
end Go.Proofs.YtfoeakgnkfcbjaaGreatDoor
end
section
/- block: BlockWrites. -/
namespace Go.Proofs.YtfoeakgnkfcbjaaGreatDoor
attribute [local irreducible] Go.Vc.Run Go.Vc.RC Go.Vc.RQ Go.Vc.DR Go.Vc.DOp Go.Vc.Knows Go.Vc.At
set_option maxHeartbeats 400000
set_option maxRecDepth 10000
open Go Go.Vc Go.Sha
theorem bt_wr (t : BkV) : ∀ x ∈ wrB t, x < 256 := by
  unfold wrB
  split
  · rename_i h
    exact bt_bk h
  · intro x hx; cases hx
set_option maxRecDepth 10000 in set_option maxHeartbeats 4000000 in
theorem BlockWrites_calls (t : BkV) (a : Option Addr) (c : Nat) (w : World) (ht : BkAt w t a c) (hK : Laid w) : Gives Tryz.prog 5 [.agg (bkC t a c).toArray] (.bool true) w := by
  refine enter Tryz.func5 rfl (Mem.nil w []) rfl ?_
  have ca : Knows Tryz.prog w 9 [] (.bool true) := Knows.mk Tryz.func9 (fun w' hf => awake17_calls w' (hK.fr hf (by simp)))
  have cf : Knows Tryz.prog w 10 [.agg (bkC t a c).toArray] (.bool (decide (FewK t))) := Knows.mk Tryz.func10 (fun w' hf => FewBk_calls t a c w' (ht.fr hf))
  have hFs : (bkC t a c).toArray.size = 10 := by rw [List.size_toArray, bkC_len]
  by_cases hf : FewK t
  rotate_left
  · rw [decide_eq_false hf] at cf
    generalize bkC t a c = F at hFs cf ⊢
    refine x_ ?_
    refine Run.nw nbx ?_
    intro b1
    refine x_ ?_
    exact RQ.ret1 rfl (Res.tmp rfl) fun w' hm => ⟨rfl, hm.fr⟩
  rw [decide_eq_true hf] at cf
  have hln := hf.ln
  have hE : ∀ w', Fr [] w w' → Turns Tryz.prog 16 [.agg (bkC t a c).toArray] w' [] (Y := WrY t) (fun y => .tuple #[y.1.1, .int .i64 (ebE t)]) (fun y => y.1.2) := fun w' hf => EncBk_calls t hln a c w' (ht.fr hf)
  have hE2 : ∀ w', Fr [] w w' → Turns Tryz.prog 18 [.agg (bkC t a c).toArray] w' [] (Y := WrY t) (fun y => .tuple #[y.1.1, .int .i64 (ebE t)]) (fun y => y.1.2) := fun w' hf => REncBk_calls t hln a c w' (ht.fr hf)
  have c1 : Knows Tryz.prog w 11 [.agg (bkC t a c).toArray] (.tuple #[.agg (u8s (idB t)).toArray, .bool (decide (MayB t))]) := Knows.mk Tryz.func11 (fun w' hf => IdBk_calls t hln a c w' (ht.fr hf) (hK.fr hf (by simp)))
  have c2 : Knows Tryz.prog w 19 [.agg (bkC t a c).toArray] (.tuple #[.agg (u8s (idB t)).toArray, .bool (decide (MayB t))]) := Knows.mk Tryz.func19 (fun w' hf => RIdBk_calls t hln a c w' (ht.fr hf))
  have c3 : ∀ w', Fr [] w w' → Gives Tryz.prog 20 [.agg (bkC t a c).toArray] (.bool (decide (MayB t))) w' := fun w' hf => MayBk_calls t hln a c w' (ht.fr hf)
  have c4 : ∀ w', Fr [] w w' → Gives Tryz.prog 21 [.agg (bkC t a c).toArray] (.bool (decide (MayB t))) w' := fun w' hf => RMayB_calls t hln a c w' (ht.fr hf)
  have c5 : ∀ w', Fr [] w w' → Gives Tryz.prog 13 [.agg (bkC t a c).toArray] (.agg (u8s (rootB t)).toArray) w' := fun w' hf => RootBk_calls t hln a c w' (ht.fr hf) (hK.fr hf (by simp))
  have c6 : ∀ w', Fr [] w w' → Gives Tryz.prog 22 [.agg (bkC t a c).toArray] (.agg (u8s (rootB t)).toArray) w' := fun w' hf => RRootBk_calls t hln a c w' (ht.fr hf)
  have h8 := idB_len t
  have hr8 : (rootB t).length = 8 := (rootB_ok t).1
  have hbt := bt_wr t
  generalize bkC t a c = F at hFs cf hE hE2 c1 c2 c3 c4 c5 c6 ⊢
  generalize idB t = D at c1 c2 h8
  generalize rootB t = R at c5 c6 hr8
  generalize decide (MayB t) = q at c1 c2 c3 c4
  have hDs : (u8s D).toArray.size = 8 := by rw [List.size_toArray, u8s_len, h8]
  refine x_ ?_
  refine Run.nw nbx ?_
  intro b1
  refine x_ ?_
  have hz0 : ([(b1, Obj.cells F.toArray 27 (0, 0))] : Hp).Perm ([] ++ [(b1, Obj.cells F.toArray 27 (0, 0))]) := List.Perm.refl _
  refine Run.op1 (OpTo.callT Tryz.func16 hz0 (fun w' hm => hE w' hm.fr)) ?_
  rintro ⟨⟨v5, l5⟩, h5⟩
  dsimp only at h5 ⊢
  refine x_ ?_
  have hz1 : (l5 ++ [(b1, Obj.cells F.toArray 27 (0, 0))] : Hp).Perm ([] ++ (l5 ++ [(b1, Obj.cells F.toArray 27 (0, 0))])) := List.Perm.refl _
  refine Run.op1 (OpTo.callT Tryz.func18 hz1 (fun w' hm => hE2 w' hm.fr)) ?_
  rintro ⟨⟨v6, l6⟩, h6⟩
  dsimp only at h6 ⊢
  refine x_ ?_
  refine Run.nw nal ?_
  intro b7
  refine x_ ?_
  refine Run.op1 (osa (arr := ti23.zero.cells) (u8s D).toArray (u8s_one D) (hs := by exact hDs)) (fun _ => ?_)
  refine x_ ?_
  refine Run.nw nal ?_
  intro b9
  refine x_ ?_
  refine Run.op1 (osa (arr := ti23.zero.cells) (u8s D).toArray (u8s_one D) (hs := by exact hDs)) (fun _ => ?_)
  refine x_ ?_
  (repeat refine RC.seq ?_); refine RC.drawS mixed (N := 35) rfl ?_
  refine DR.t 0 rfl (vla (arr := F.toArray) (hv := hFs) (hm := (by repeat (first | exact List.mem_cons_self | apply List.mem_cons_of_mem | apply List.mem_append_right)))) ?_
  refine DR.t 2 rfl (vla (arr := F.toArray) (hv := hFs) (hm := (by repeat (first | exact List.mem_cons_self | apply List.mem_cons_of_mem | apply List.mem_append_right)))) ?_
  refine DR.c 1 (DOp.op1 rfl (OpTo.cv Tryz.func20 (fun w' hm => c3 w' hm.fr)) (fun _ => ?_))
  refine DR.c 3 (DOp.op1 rfl (OpTo.cv Tryz.func21 (fun w' hm => c4 w' hm.fr)) (fun _ => ?_))
  refine DR.t 4 rfl (veb) ?_
  refine dy 5 ?_
  refine dy 6 ?_
  refine dy 7 ?_
  refine dy 8 ?_
  refine dy 9 ?_
  refine dy 10 ?_
  refine dy 11 ?_
  refine DR.t 12 rfl (Val.bytesStr (a := wrB t) tabOk rfl rfl rfl rfl rfl rfl rfl rfl (h5.src (fun q hq => (by repeat (first | exact List.mem_append_left _ hq | exact hq | apply List.mem_append_right | apply List.mem_cons_of_mem))))) ?_
  refine dy 13 ?_
  refine DR.t 14 rfl (Val.bytesStr (a := wrB t) tabOk rfl rfl rfl rfl rfl rfl rfl rfl (h6.src (fun q hq => (by repeat (first | exact List.mem_append_left _ hq | exact hq | apply List.mem_append_right | apply List.mem_cons_of_mem))))) ?_
  refine DR.t 15 rfl (Val.eq (Val.eqStr (a := wrB t) (b := wrB t) rfl rfl rfl hbt hbt) (show _ = Value.bool true from by rw [decide_eq_true rfl])) ?_
  refine dy 16 ?_
  refine dy 17 ?_
  refine DR.t 18 rfl (vla (arr := (u8s D).toArray) (hv := hDs) (hm := (by repeat (first | exact List.mem_cons_self | apply List.mem_cons_of_mem | apply List.mem_append_right)))) ?_
  refine DR.t 19 rfl (vla (arr := (u8s D).toArray) (hv := hDs) (hm := (by repeat (first | exact List.mem_cons_self | apply List.mem_cons_of_mem | apply List.mem_append_right)))) ?_
  refine DR.t 20 rfl (veu 8 D h8 (by kernel_rfl)) ?_
  refine dy 21 ?_
  refine dy 22 ?_
  refine dy 23 ?_
  refine dy 24 ?_
  refine DR.t 25 rfl (veb) ?_
  refine dy 26 ?_
  refine dy 27 ?_
  refine DR.t 28 rfl (vla (arr := F.toArray) (hv := hFs) (hm := (by repeat (first | exact List.mem_cons_self | apply List.mem_cons_of_mem | apply List.mem_append_right)))) ?_
  refine DR.t 30 rfl (vla (arr := F.toArray) (hv := hFs) (hm := (by repeat (first | exact List.mem_cons_self | apply List.mem_cons_of_mem | apply List.mem_append_right)))) ?_
  refine DR.c 29 (DOp.op1 rfl (OpTo.cv Tryz.func13 (fun w' hm => c5 w' hm.fr)) (fun _ => ?_))
  refine DR.c 31 (DOp.op1 rfl (OpTo.cv Tryz.func22 (fun w' hm => c6 w' hm.fr)) (fun _ => ?_))
  refine DR.t 32 rfl (veu 8 R hr8 (by kernel_rfl)) ?_
  refine dy 33 ?_
  refine dy 34 ?_
  refine DR.done (by kernel_rfl) ?_
  refine x_ ?_
  exact RQ.ret1 rfl (Res.tmp rfl) fun w' hm => ⟨rfl, hm.fr⟩
end Go.Proofs.YtfoeakgnkfcbjaaGreatDoor
end
