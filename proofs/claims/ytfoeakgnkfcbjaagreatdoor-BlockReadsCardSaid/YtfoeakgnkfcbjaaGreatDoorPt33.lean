/- Lemmas. -/
import Derived.Test.YtfoeakgnkfcbjaaGreatDoorPt32
set_option linter.unusedSimpArgs false
set_option linter.unusedVariables false
section
/- block: the reference's Decode (gen_bkx.py prints it). -/
namespace Go.Vc
open Go Go.Sha
section
variable {P : Program} {n : Nat} {w0 : World} {S0 : List Nat} {E : Env} {L : Hp} {o : Oper} {t : Nat}
theorem Val.neStr {x y : Operand} {t2 : Nat} {a b : List Nat} (ho : o.op = .binOp .neq t x y t2) (hx : lk E x = some (.string (bs a))) (hy : lk E y = some (.string (bs b))) (ha : ∀ x ∈ a, x < 256) (hb : ∀ x ∈ b, x < 256) :
    Val P n w0 S0 E L o (.bool (!decide (a = b))) := by
  intro ac w hs _
  have : ((bs a).toList == (bs b).toList) = decide (a = b) := by
    rw [Bool.eq_iff_iff, beq_iff_eq, decide_eq_true_iff]
    refine ⟨fun h => bs_inj ha hb ?_, fun h => by rw [h]⟩
    rw [ByteArray.toList_eq, ByteArray.toList_eq] at h
    exact ByteArray.ext (Array.toList_inj.1 h)
  have h2 : ((bs a).toList != (bs b).toList) = !decide (a = b) := by rw [← this]; rfl
  simp [execOp, ho, hs.eval hx, hs.eval hy, binOp, Op.stringOp, h2, eqGuard]
  exact this
end
end Go.Vc
namespace Go.Proofs.YtfoeakgnkfcbjaaGreatDoor
attribute [local irreducible] Go.Vc.Run Go.Vc.RC Go.Vc.RQ Go.Vc.DR Go.Vc.DOp Go.Vc.Knows Go.Vc.At
set_option maxHeartbeats 400000
set_option maxRecDepth 10000
open Go Go.Vc Go.Sha
theorem agr_pre : Agr (cAnd cB (cAnd cB (cN 1))) (pAnd (pB 8) (pAnd (pB 8) (pN 1))) := agr_B.and (agr_B.and (agr_N 1))
theorem cN_bad {s s1 : CuS} {k : Nat} {x : Int} (h : cN k s = (x, s1)) (hb : s1.2 = true) : x = 0 := by
  unfold cN at h
  split at h
  · cases h; cases hb
  · cases h; rfl
theorem cBk_pre {l : List Nat} (hb : Bt l) {x1 x2 : By 8} {n : Int} {s1 s2 s3 : CuS} (h1 : cB (l, false) = (x1, s1)) (h2 : cB s1 = (x2, s2)) (h3 : cN 1 s2 = (n, s3)) :
    (s3.2 = true ∧ n = 0 ∧ pBk l = none) ∨ ∃ (r3 : List Nat) (k : Nat), s3 = (r3, false) ∧ n = (k : Int) ∧ k < 256 ∧ (pRep pByt k r3 = none → pBk l = none) ∧ ∀ rows r, pRep pByt k r3 = some (rows, r) → pBk l = some ((x1, x2, rows), r) := by
  have hT : (cAnd cB (cAnd cB (cN 1))) (l, false) = ((x1, x2, n), s3) := by simp [cAnd, h1, h2, h3]
  rcases hp : (pAnd (pB 8) (pAnd (pB 8) (pN 1))) l with _ | ⟨⟨y1, y2, m⟩, r⟩
  · left
    have hbad := agr_pre.no l hb hp
    rw [hT] at hbad
    refine ⟨hbad, cN_bad h3 hbad, ?_⟩
    unfold pAnd at hp
    unfold pBk pAnd pRow
    rcases e1 : pB 8 l with _ | ⟨z1, r1⟩
    · rfl
    · rw [e1] at hp
      dsimp only at hp ⊢
      rcases e2 : pB 8 r1 with _ | ⟨z2, r2⟩
      · rfl
      · rw [e2] at hp
        dsimp only at hp ⊢
        rcases e3 : pN 1 r2 with _ | ⟨z3, r3⟩
        · rfl
        · rw [e3] at hp; cases hp
  · right
    have hok := agr_pre.ok l _ r hb hp
    rw [hT] at hok
    simp only [Prod.mk.injEq] at hok
    obtain ⟨⟨rfl, rfl, rfl⟩, rfl⟩ := hok
    unfold pAnd at hp
    rcases e1 : pB 8 l with _ | ⟨z1, r1⟩
    · rw [e1] at hp; cases hp
    · rw [e1] at hp
      dsimp only at hp
      rcases e2 : pB 8 r1 with _ | ⟨z2, r2⟩
      · rw [e2] at hp; cases hp
      · rw [e2] at hp
        dsimp only at hp
        rcases e3 : pN 1 r2 with _ | ⟨z3, r3⟩
        · rw [e3] at hp; cases hp
        · rw [e3] at hp
          simp only [Option.some.injEq, Prod.mk.injEq] at hp
          obtain ⟨⟨rfl, rfl, rfl⟩, rfl⟩ := hp
          have hb1 : Bt r1 := agr_B.lt hb e1
          have hb2 : Bt r2 := agr_B.lt hb1 e2
          obtain ⟨k, rfl, hk⟩ := pN_nat e3 hb2
          refine ⟨_, k, rfl, rfl, hk, fun h => ?_, fun rows r h => ?_⟩
          · simp [pBk, pAnd, pRow, e1, e2, e3, h]
          · simp [pBk, pAnd, pRow, e1, e2, e3, h]
set_option maxRecDepth 10000 in set_option maxHeartbeats 4000000 in
theorem RDecBk_calls (l : List Nat) (hl : l.length ≤ 131072) (hb : Bt l) (v : Value) (w : World) (hs : SrcW w 1 v l.length (u8s l)) :
    Turns Tryz.prog 23 [v] w [] (Y := DecY l) (fun y => .tuple #[.agg (bkC y.b y.a y.c).toArray, .int .i64 (dkE l)]) (fun y => y.bl) := by
  refine enter Tryz.func23 rfl (Mem.nil w []) rfl ?_
  obtain ⟨a, c, rfl, hc⟩ := hs.shape
  have hI : InB w [] a l := ⟨hl, hb, hs.cap, fun _ _ _ h => by cases h⟩
  have hN10 : ∀ b a c, (bkC b a c).toArray.size = ti27.size := fun b a c => by rw [List.size_toArray, bkC_len]; rfl
  have hsz := fun b a c => (show (bkC b a c).toArray.size = 10 by rw [List.size_toArray, bkC_len])
  have hnul : ∀ e : Int, dkB l = BkV.nul → dkE l = e → ∀ w' L1, Mem w [] L1 w' → ∃ y' : DecY l, Ending.returned (.tuple #[.agg (bkC BkV.nul none 0).toArray, .int .i64 e]) = Ending.returned (.tuple #[.agg (bkC y'.b y'.a y'.c).toArray, .int .i64 (dkE l)]) ∧ Fr (([] : Hp).map (·.1)) w w' ∧ Has y'.bl w' ∧ (∀ p ∈ y'.bl, w.heap.size ≤ p.1 ∨ p.1 ∈ ([] : Hp).map (·.1)) ∧ (y'.bl.map (·.1)).Nodup := fun e h1 h2 w' L1 hm => by
    rw [h2]
    exact Turns.of (Y := DecY l) (V := fun y => .tuple #[.agg (bkC y.b y.a y.c).toArray, .int .i64 e]) (L' := fun y => y.bl) (Lst := []) (DecY.nul h1) hm (Lr := L1) (List.Perm.refl _)
  refine x_ ?_
  refine Run.nw nal ?_
  intro b2
  refine x_ ?_
  refine Run.a (vbs #[.slice a l.length c, .int .i64 0, .bool false]) ?_
  refine x_ ?_
  refine Run.nw nbx ?_
  intro b4
  have e0 : ([(b4, Obj.cells #[.slice a l.length c, .int .i64 0, .bool false] 96 (0, 0)), (b2, Obj.cells ti27.zero.cells 27 (0, 0))] : Hp) = [(b4, CuC a c l (l, false)), (b2, Obj.cells (bkC BkV.nul none 0).toArray 27 (0, 0))] := by
    rw [← bk_zero]
    show _ = [(b4, Obj.cells #[.slice a l.length c, .int .i64 ((l.length - l.length : Nat) : Int), .bool false] _ (0, 0)), _]
    rw [Nat.sub_self]; rfl
  refine runPerm (L' := [(b4, CuC a c l (l, false)), (b2, Obj.cells (bkC BkV.nul none 0).toArray 27 (0, 0))]) (by rw [← e0]) ?_
  refine x_ ?_
  rcases h1 : cB (l, false) with ⟨x1, s1⟩
  have hs1 : s1.1 <:+ l := by have := cB_sfx (l, false); rw [h1] at this; exact this
  have hp1 : ([(b4, CuC a c l (l, false)), (b2, Obj.cells (bkC BkV.nul none 0).toArray 27 (0, 0))] : Hp).Perm (((b4, CuC a c l (l, false)) :: []) ++ [(b2, Obj.cells (bkC BkV.nul none 0).toArray 27 (0, 0))]) := List.Perm.refl _
  refine Run.op1 (callC Tryz.func49 (cuHash b4 a c l (l, false) (List.suffix_refl l)) hc hI hp1 h1) (fun _ => ?_)
  dsimp only [List.append_nil, List.cons_append, List.nil_append]
  have hx8 : (u8s x1.1).length = 8 := by rw [u8s_len, x1.2.1]
  refine x_ ?_
  refine Run.a (vbs (bkC { BkV.nul with pv := x1 } none 0).toArray (hf := by exact fill_first (F := bkC { BkV.nul with pv := x1 } none 0) rfl (show (u8s x1.1).toArray.size = 8 by rw [List.size_toArray, hx8]) (by decide) rfl)) ?_
  refine x_ ?_
  refine Run.nw nal ?_
  intro b5
  refine x_ ?_
  refine Run.op1 (osa (arr := ti27.zero.cells) (e := 27) (L' := [(b4, CuC a c l s1), (b2, Obj.cells (bkC BkV.nul none 0).toArray 27 (0, 0))]) (bkC { BkV.nul with pv := x1 } none 0).toArray (bkC_one _ _ _) (hL := (perm_of fun f => by ((try dsimp only [CuC]) <;> simp only [List.map_append, List.map_cons, List.map_nil, List.sum_append, List.sum_cons, List.sum_nil] <;> omega))) (hs := by exact hN10 _ _ _)) (fun _ => ?_)
  refine x_ ?_
  rcases h2 : cB s1 with ⟨x2, s2⟩
  have hs2 : s2.1 <:+ l := by have := cB_sfx s1; rw [h2] at this; exact this.trans hs1
  have hwk : num8 x2.1 < 18446744073709551616 := num8_64 x2
  have hp2 : ([(b5, Obj.cells (bkC { BkV.nul with pv := x1 } none 0).toArray 27 (0, 0)), (b4, CuC a c l s1), (b2, Obj.cells (bkC BkV.nul none 0).toArray 27 (0, 0))] : Hp).Perm (((b4, CuC a c l s1) :: []) ++ [(b5, Obj.cells (bkC { BkV.nul with pv := x1 } none 0).toArray 27 (0, 0)), (b2, Obj.cells (bkC BkV.nul none 0).toArray 27 (0, 0))]) := (perm_of fun f => by ((try dsimp only [CuC]) <;> simp only [List.map_append, List.map_cons, List.map_nil, List.sum_append, List.sum_cons, List.sum_nil] <;> omega))
  refine Run.op1 (callC Tryz.func49 (cuHash b4 a c l s1 hs1) hc hI hp2 h2) (fun _ => ?_)
  dsimp only [List.append_nil, List.cons_append, List.nil_append]
  refine x_ ?_
  refine Run.op1 (OpTo.cv Tryz.func50 (fun w' _ => RFOf_calls x2.1 x2.2.1 x2.2.2 w')) (fun _ => ?_)
  refine x_ ?_
  refine Run.op1 (ostE (arr := (bkC { BkV.nul with pv := x1 } none 0).toArray) (e := 27) (L' := [(b4, CuC a c l s2), (b2, Obj.cells (bkC BkV.nul none 0).toArray 27 (0, 0))]) (bkC ⟨x1, num8 x2.1, hwk, []⟩ none 0).toArray (hL := (perm_of fun f => by ((try dsimp only [CuC]) <;> simp only [List.map_append, List.map_cons, List.map_nil, List.sum_append, List.sum_cons, List.sum_nil] <;> omega))) (he := by exact bk_w8 { BkV.nul with pv := x1 } (num8 x2.1) hwk none 0) (hf := by rw [hsz]; decide) (h1 := by exact one_f _)) (fun _ => ?_)
  refine x_ ?_
  rcases h3 : cN 1 s2 with ⟨n, s3⟩
  have hs3 : s3.1 <:+ l := by have := (agr_N 1).sfx s2; rw [h3] at this; exact this.trans hs2
  have hp3 : ([(b5, Obj.cells (bkC ⟨x1, num8 x2.1, hwk, []⟩ none 0).toArray 27 (0, 0)), (b4, CuC a c l s2), (b2, Obj.cells (bkC BkV.nul none 0).toArray 27 (0, 0))] : Hp).Perm (((b4, CuC a c l s2) :: []) ++ [(b5, Obj.cells (bkC ⟨x1, num8 x2.1, hwk, []⟩ none 0).toArray 27 (0, 0)), (b2, Obj.cells (bkC BkV.nul none 0).toArray 27 (0, 0))]) := (perm_of fun f => by ((try dsimp only [CuC]) <;> simp only [List.map_append, List.map_cons, List.map_nil, List.sum_append, List.sum_cons, List.sum_nil] <;> omega))
  refine Run.op1 (callC Tryz.func51 (cuNum 1 (by decide) b4 a c l s2 hs2) hc hI hp3 h3) (fun _ => ?_)
  dsimp only [List.append_nil, List.cons_append, List.nil_append]
  rcases cBk_pre hb h1 h2 h3 with ⟨hbad, rfl, hnone⟩ | ⟨r3, n, rfl, rfl, hn, hbkN, hbkS⟩
  · have hT : dkB l = BkV.nul := by unfold dkB; rw [hnone]
    have hE : dkE l = 2 := by unfold dkE; rw [hnone]
    obtain ⟨r3, bb⟩ := s3
    obtain rfl : bb = true := hbad
    refine x_ ?_
    refine RC.up 0 (D := Unit) (fun _ _ => True) (fun k _ => [(8, .int .i64 k), (7, .bool false), (6, .int .i64 0), (5, .pointer (some ⟨b5, 0, none⟩)), (4, .pointer (some ⟨b4, 0, none⟩)), (2, .pointer (some ⟨b2, 0, none⟩)), (0, .slice a l.length c)]) (fun _ _ => [(b4, CuC a c l (r3, true)), (b5, Obj.cells (bkC ⟨x1, num8 x2.1, hwk, []⟩ none 0).toArray 27 (0, 0)), (b2, Obj.cells (bkC BkV.nul none 0).toArray 27 (0, 0))]) 0 () (Nat.le_refl _) trivial ⟨rfl, rfl, rfl, rfl, rfl, rfl, rfl, trivial⟩ (List.Sublist.refl _) ?_
    intro k _ hk _
    obtain rfl : k = 0 := by omega
    refine x_ ?_
    refine Run.op1 (OpTo.cv Tryz.func53 (fun w' hm => cuEnd b4 a c l hl (r3, true) hs3 w' (hm.has (b4, CuC a c l (r3, true)) (by repeat (first | exact List.mem_cons_self | apply List.mem_cons_of_mem | apply List.mem_append_right))))) (fun _ => ?_)
    rw [show endE (r3, true) = 2 from if_pos rfl]
    refine x_ ?_
    (repeat refine RC.seq ?_); refine RC.drawS mixed (N := 18) rfl ?_
    refine dy 0 ?_
    refine dy 1 ?_
    refine dy 2 ?_
    refine DR.p 3 rfl ?_
    refine DR.p 4 rfl ?_
    refine DR.p 5 rfl ?_
    refine DR.cp 6 rfl ?_
    refine DR.p 7 rfl ?_
    refine DR.p 8 rfl ?_
    refine DR.p 9 rfl ?_
    refine DR.p 10 rfl ?_
    refine DR.p 13 rfl ?_
    refine DR.p 14 rfl ?_
    refine DR.cp 11 rfl ?_
    refine DR.p 12 rfl ?_
    refine DR.p 15 rfl ?_
    refine DR.p 16 rfl ?_
    refine dy 17 ?_
    refine DR.done (by kernel_rfl) ?_
    refine x_ ?_
    refine Run.op1 (osa (arr := (bkC BkV.nul none 0).toArray) (e := 27) (L' := [(b4, CuC a c l (r3, true)), (b5, Obj.cells (bkC ⟨x1, num8 x2.1, hwk, []⟩ none 0).toArray 27 (0, 0))]) (bkC BkV.nul none 0).toArray (bkC_one _ _ _) (hL := (perm_of fun f => by ((try dsimp only [CuC]) <;> simp only [List.map_append, List.map_cons, List.map_nil, List.sum_append, List.sum_cons, List.sum_nil] <;> omega))) (hs := by exact hN10 _ _ _) (hf := by exact (hN10 _ _ _).symm)) (fun _ => ?_)
    refine x_ ?_
    exact RQ.ret2 rfl (Res.cellAll tabOk rfl rfl rfl m0 (hN10 _ _ _)) (Res.tmp rfl) fun w' hm => hnul 2 hT hE w' _ hm
  have hr3 : r3 <:+ l := hs3
  refine x_ ?_
  refine RC.up n (D := (List (List Nat) × List Nat) × (List TxP × (Option Addr × Nat)) × (Hp × Hp)) (fun k d => (pRep pByt k r3 = some (d.1.1, d.1.2) ∧ d.1.2 <:+ l ∧ d.1.1.length = k) ∧ (d.2.1.1.map (·.1) = d.1.1.map decT ∧ ∀ x ∈ d.1.1, Bt x) ∧ Own 64 170 (.slice d.2.1.2.1 d.2.1.1.length d.2.1.2.2) d.2.1.1.length (rws txR d.2.1.1) d.2.2.1 ∧ ∀ w, Has d.2.2.2 w → ∀ z ∈ d.2.1.1, TxAt w z.1 z.2) (fun k d => [(8, .int .i64 k), (7, .bool (badL d.1.1)), (6, .int .i64 n), (5, .pointer (some ⟨b5, 0, none⟩)), (4, .pointer (some ⟨b4, 0, none⟩)), (2, .pointer (some ⟨b2, 0, none⟩)), (0, .slice a l.length c)]) (fun _ d => (b4, CuC a c l (d.1.2, false)) :: ((b5, Obj.cells (bkC ⟨x1, num8 x2.1, hwk, d.2.1.1⟩ d.2.1.2.1 d.2.1.2.2).toArray 27 (0, 0)) :: (d.2.2.1 ++ (d.2.2.2 ++ [(b2, Obj.cells (bkC BkV.nul none 0).toArray 27 (0, 0))])))) 0 (([], r3), ([], (none, 0)), ([], [])) (Nat.zero_le _) ⟨⟨rfl, hr3, rfl⟩, ⟨rfl, fun x hx => by cases hx⟩, Own.nil, fun _ _ z hz => by cases hz⟩ ⟨rfl, rfl, rfl, rfl, rfl, rfl, rfl, trivial⟩ (List.Sublist.refl _) ?_
  rintro k ⟨⟨rows, rk⟩, ⟨ts, ⟨sa, sc⟩⟩, ⟨L5, pool⟩⟩ hk ⟨⟨hrep, hrk, hxl⟩, ⟨htm, hbt⟩, hown, hat⟩
  dsimp only at hrep hrk hxl htm hbt hown hat ⊢
  have htl : ts.length = k := by rw [← hxl]; have := congrArg List.length htm; simpa using this
  have hrl := hrk.length_le
  by_cases hk' : k < n
  · refine x_ ?_
    have hp4 : ((b4, CuC a c l (rk, false)) :: ((b5, Obj.cells (bkC ⟨x1, num8 x2.1, hwk, ts⟩ sa sc).toArray 27 (0, 0)) :: (L5 ++ (pool ++ [(b2, Obj.cells (bkC BkV.nul none 0).toArray 27 (0, 0))]))) : Hp).Perm (((b4, CuC a c l (rk, false)) :: []) ++ ((b5, Obj.cells (bkC ⟨x1, num8 x2.1, hwk, ts⟩ sa sc).toArray 27 (0, 0)) :: (L5 ++ (pool ++ [(b2, Obj.cells (bkC BkV.nul none 0).toArray 27 (0, 0))])))) := List.Perm.refl _
    by_cases h4 : 4 ≤ rk.length
    rotate_left
    · have hN : cN 4 (rk, false) = (0, (rk, true)) := if_neg fun h => h4 h.2
      have hpb : pByt rk = none := if_neg fun h => h4 h.1
      have hnone := hbkN (pRep_none hrep hpb n hk')
      have hT : dkB l = BkV.nul := by unfold dkB; rw [hnone]
      have hE : dkE l = 2 := by unfold dkE; rw [hnone]
      refine Run.op1 (callC Tryz.func51 (cuNum 4 (by decide) b4 a c l (rk, false) hrk) hc hI hp4 hN) (fun _ => ?_)
      dsimp only [List.append_nil, List.cons_append, List.nil_append]
      refine x_ ?_
      refine Run.op1 (ostE (arr := #[.slice a l.length c, .int .i64 ((l.length - rk.length : Nat) : Int), .bool true]) (e := 96) (L' := (b5, Obj.cells (bkC ⟨x1, num8 x2.1, hwk, ts⟩ sa sc).toArray 27 (0, 0)) :: (L5 ++ (pool ++ [(b2, Obj.cells (bkC BkV.nul none 0).toArray 27 (0, 0))]))) #[.slice a l.length c, .int .i64 ((l.length - rk.length : Nat) : Int), .bool true] (hL := (perm_of fun f => by ((try dsimp only [CuC]) <;> simp only [List.map_append, List.map_cons, List.map_nil, List.sum_append, List.sum_cons, List.sum_nil] <;> omega))) (he := by rfl) (hf := by exact Nat.le_of_ble_eq_true rfl) (h1 := by exact one_bB _)) (fun _ => ?_)
      refine x_ ?_
      refine Run.op1 (OpTo.cv Tryz.func53 (fun w' hm => cuEnd b4 a c l hl (rk, true) hrk w' (hm.has (b4, CuC a c l (rk, true)) (by repeat (first | exact List.mem_cons_self | apply List.mem_cons_of_mem | apply List.mem_append_right))))) (fun _ => ?_)
      rw [show endE (rk, true) = 2 from if_pos rfl]
      refine x_ ?_
      (repeat refine RC.seq ?_); refine RC.drawS mixed (N := 18) rfl ?_
      refine dy 0 ?_
      refine dy 1 ?_
      refine dy 2 ?_
      refine DR.p 3 rfl ?_
      refine DR.p 4 rfl ?_
      refine DR.p 5 rfl ?_
      refine DR.cp 6 rfl ?_
      refine DR.p 7 rfl ?_
      refine DR.p 8 rfl ?_
      refine DR.p 9 rfl ?_
      refine DR.p 10 rfl ?_
      refine DR.p 13 rfl ?_
      refine DR.p 14 rfl ?_
      refine DR.cp 11 rfl ?_
      refine DR.p 12 rfl ?_
      refine DR.p 15 rfl ?_
      refine DR.p 16 rfl ?_
      refine dy 17 ?_
      refine DR.done (by kernel_rfl) ?_
      refine x_ ?_
      refine Run.op1 (osa (arr := (bkC BkV.nul none 0).toArray) (e := 27) (L' := (b4, CuC a c l (rk, true)) :: ((b5, Obj.cells (bkC ⟨x1, num8 x2.1, hwk, ts⟩ sa sc).toArray 27 (0, 0)) :: (L5 ++ pool))) (bkC BkV.nul none 0).toArray (bkC_one _ _ _) (hL := (perm_of fun f => by ((try dsimp only [CuC]) <;> simp only [List.map_append, List.map_cons, List.map_nil, List.sum_append, List.sum_cons, List.sum_nil] <;> omega))) (hs := by exact hN10 _ _ _) (hf := by exact (hN10 _ _ _).symm)) (fun _ => ?_)
      refine x_ ?_
      exact RQ.ret2 rfl (Res.cellAll tabOk rfl rfl rfl m0 (hN10 _ _ _)) (Res.tmp rfl) fun w' hm => hnul 2 hT hE w' _ hm
    obtain ⟨m, hm⟩ : ∃ m, m = num8 (rk.take 4) := ⟨_, rfl⟩
    obtain ⟨r4, hr4⟩ : ∃ r4, r4 = rk.drop 4 := ⟨_, rfl⟩
    have hr4l : r4.length = rk.length - 4 := by rw [hr4, List.length_drop]
    have hr4s : r4 <:+ l := by rw [hr4]; exact (List.drop_suffix _ _).trans hrk
    have hN : cN 4 (rk, false) = ((m : Int), (r4, false)) := by rw [hm, hr4]; exact if_pos ⟨rfl, h4⟩
    have hml : m < 4294967296 := by
      have := num8_lt (rk.take 4) (fun z hz => hb z (hrk.mem (List.mem_of_mem_take hz)))
      rw [List.length_take, Nat.min_eq_left h4] at this
      rw [hm]; exact this
    refine Run.op1 (callC Tryz.func51 (cuNum 4 (by decide) b4 a c l (rk, false) hrk) hc hI hp4 hN) (fun _ => ?_)
    dsimp only [List.append_nil, List.cons_append, List.nil_append]
    by_cases hov : m ≤ r4.length
    rotate_left
    · have hpb : pByt rk = none := if_neg fun h => hov (by rw [hm, hr4]; exact h.2)
      have hnone := hbkN (pRep_none hrep hpb n hk')
      have hT : dkB l = BkV.nul := by unfold dkB; rw [hnone]
      have hE : dkE l = 2 := by unfold dkE; rw [hnone]
      refine x_ ?_
      refine Run.op1 (ostE (arr := #[.slice a l.length c, .int .i64 ((l.length - r4.length : Nat) : Int), .bool false]) (e := 96) (L' := (b5, Obj.cells (bkC ⟨x1, num8 x2.1, hwk, ts⟩ sa sc).toArray 27 (0, 0)) :: (L5 ++ (pool ++ [(b2, Obj.cells (bkC BkV.nul none 0).toArray 27 (0, 0))]))) #[.slice a l.length c, .int .i64 ((l.length - r4.length : Nat) : Int), .bool true] (hL := (perm_of fun f => by ((try dsimp only [CuC]) <;> simp only [List.map_append, List.map_cons, List.map_nil, List.sum_append, List.sum_cons, List.sum_nil] <;> omega))) (he := by rfl) (hf := by exact Nat.le_of_ble_eq_true rfl) (h1 := by exact one_bB _)) (fun _ => ?_)
      refine x_ ?_
      refine Run.op1 (OpTo.cv Tryz.func53 (fun w' hm => cuEnd b4 a c l hl (r4, true) hr4s w' (hm.has (b4, CuC a c l (r4, true)) (by repeat (first | exact List.mem_cons_self | apply List.mem_cons_of_mem | apply List.mem_append_right))))) (fun _ => ?_)
      rw [show endE (r4, true) = 2 from if_pos rfl]
      refine x_ ?_
      (repeat refine RC.seq ?_); refine RC.drawS mixed (N := 18) rfl ?_
      refine dy 0 ?_
      refine dy 1 ?_
      refine dy 2 ?_
      refine DR.p 3 rfl ?_
      refine DR.p 4 rfl ?_
      refine DR.p 5 rfl ?_
      refine DR.cp 6 rfl ?_
      refine DR.p 7 rfl ?_
      refine DR.p 8 rfl ?_
      refine DR.p 9 rfl ?_
      refine DR.p 10 rfl ?_
      refine DR.p 13 rfl ?_
      refine DR.p 14 rfl ?_
      refine DR.cp 11 rfl ?_
      refine DR.p 12 rfl ?_
      refine DR.p 15 rfl ?_
      refine DR.p 16 rfl ?_
      refine dy 17 ?_
      refine DR.done (by kernel_rfl) ?_
      refine x_ ?_
      refine Run.op1 (osa (arr := (bkC BkV.nul none 0).toArray) (e := 27) (L' := (b4, CuC a c l (r4, true)) :: ((b5, Obj.cells (bkC ⟨x1, num8 x2.1, hwk, ts⟩ sa sc).toArray 27 (0, 0)) :: (L5 ++ pool))) (bkC BkV.nul none 0).toArray (bkC_one _ _ _) (hL := (perm_of fun f => by ((try dsimp only [CuC]) <;> simp only [List.map_append, List.map_cons, List.map_nil, List.sum_append, List.sum_cons, List.sum_nil] <;> omega))) (hs := by exact hN10 _ _ _) (hf := by exact (hN10 _ _ _).symm)) (fun _ => ?_)
      refine x_ ?_
      exact RQ.ret2 rfl (Res.cellAll tabOk rfl rfl rfl m0 (hN10 _ _ _)) (Res.tmp rfl) fun w' hm => hnul 2 hT hE w' _ hm
    obtain ⟨x4, hx4⟩ : ∃ x4, x4 = r4.take m := ⟨_, rfl⟩
    have hx4l : x4.length = m := by rw [hx4, List.length_take]; omega
    have hpb : pByt rk = some (x4, r4.drop m) := by rw [hx4, hr4, hm]; exact if_pos ⟨h4, by rw [← hm, ← hr4]; exact hov⟩
    have hst := pRep_step hrep hpb
    have hx4b : Bt x4 := fun z hz => hb z (hr4s.mem (List.mem_of_mem_take (hx4 ▸ hz)))
    have h131 : x4.length ≤ 131072 := by omega
    obtain ⟨ad, c', hv', hc', hcl, hrd⟩ := hs.pos (show 0 < l.length by omega)
    cases hv'
    have hpre : r4 = l.drop (l.length - r4.length) := by
      obtain ⟨p, hp⟩ := hr4s
      rw [← hp, List.length_append, Nat.add_sub_cancel, List.drop_left]
    have hsx : ∀ w', Fr [] w w' → SrcW w' 1 (.slice (some (if c = l.length - r4.length then ad else ad.add ((l.length - r4.length) * 1))) (l.length - r4.length + m - (l.length - r4.length)) (c - (l.length - r4.length))) x4.length (u8s x4) := fun w' hf => by
      refine SrcW.fr (w := w) ?_ hf
      rw [Nat.add_sub_cancel_left, hx4l]
      by_cases h0 : m = 0
      · refine SrcW.at _ _ _ _ (by rw [u8s_len, hx4l, Nat.mul_one]) (by omega) fun j u hj => ?_
        have h9 := (List.getElem?_eq_some_iff.1 hj).1
        rw [u8s_len] at h9
        omega
      · rw [if_neg (by omega)]
        refine SrcW.at _ _ _ _ (by rw [u8s_len, hx4l, Nat.mul_one]) (by omega) fun j u hj => ?_
        rw [add_add, Nat.mul_one]
        refine hrd _ u ?_
        rw [hx4, u8s_take, List.getElem?_take] at hj
        split at hj
        · rw [hpre, u8s_drop, List.getElem?_drop] at hj
          exact hj
        · cases hj
    obtain ⟨ee, hee⟩ : ∃ ee, ee = decE x4 := ⟨_, rfl⟩
    have hT170 : ∀ tv, (txC (decT x4) tv).toArray.size = 170 := fun tv => by rw [List.size_toArray, txC_len]
    have hDc : ∀ w', Fr [] w w' → Turns Tryz.prog 52 [.slice (some (if c = l.length - r4.length then ad else ad.add ((l.length - r4.length) * 1))) (l.length - r4.length + m - (l.length - r4.length)) (c - (l.length - r4.length))] w' [] (Y := TxY (decT x4)) (fun y => .tuple #[.agg (txC (decT x4) y.1.1).toArray, .int .i64 ee]) (fun y => y.1.2) := fun w' hf => by rw [hee]; exact RDecode_calls x4 h131 hx4b _ w' (hsx w' hf)
    refine x_ ?_
    refine RC.thenCut (Y := Nat × TxY (decT x4)) (fun y => [(11, .int .i64 ee), (10, .pointer (some ⟨y.1, 0, none⟩)), (9, .int .i64 m), (8, .int .i64 k), (7, .bool (badL rows)), (6, .int .i64 n), (5, .pointer (some ⟨b5, 0, none⟩)), (4, .pointer (some ⟨b4, 0, none⟩)), (2, .pointer (some ⟨b2, 0, none⟩)), (0, .slice (some ad) l.length c)]) (fun y => (y.1, Obj.cells (txC (decT x4) y.2.1.1).toArray 64 (0, 0)) :: (y.2.1.2 ++ ((b4, CuC (some ad) c l (r4, false)) :: ((b5, Obj.cells (bkC ⟨x1, num8 x2.1, hwk, ts⟩ sa sc).toArray 27 (0, 0)) :: (L5 ++ (pool ++ [(b2, Obj.cells (bkC BkV.nul none 0).toArray 27 (0, 0))])))))) ?_ (fun y => ?_)
    · (repeat refine RC.seq ?_); refine RC.drawS mixed (N := 19) rfl ?_
      refine dy 0 ?_
      refine dy 1 ?_
      refine dy 2 ?_
      refine dy 3 ?_
      refine dy 4 ?_
      refine dy 5 ?_
      refine dy 6 ?_
      refine dy 7 ?_
      refine dy 8 ?_
      refine dy 9 ?_
      refine dy 10 ?_
      refine DR.t 11 rfl (Val.sliceS (zl := l.length - r4.length) (zh := l.length - r4.length + m) tabOk rfl rfl rfl rfl rfl (.inr ⟨_, rfl, rfl⟩) (.inr ⟨_, rfl, rfl⟩) (by omega) (by omega)) ?_
      refine DR.two (i := 12) (j := 16) (by kernel_rfl) ?_ ?_
      · have hz : ((b4, CuC (some ad) c l (r4, false)) :: ((b5, Obj.cells (bkC ⟨x1, num8 x2.1, hwk, ts⟩ sa sc).toArray 27 (0, 0)) :: (L5 ++ (pool ++ [(b2, Obj.cells (bkC BkV.nul none 0).toArray 27 (0, 0))]))) : Hp).Perm ([] ++ ((b4, CuC (some ad) c l (r4, false)) :: ((b5, Obj.cells (bkC ⟨x1, num8 x2.1, hwk, ts⟩ sa sc).toArray 27 (0, 0)) :: (L5 ++ (pool ++ [(b2, Obj.cells (bkC BkV.nul none 0).toArray 27 (0, 0))]))))) := List.Perm.refl _
        refine DOp.op1 rfl (OpTo.callT Tryz.func52 hz (fun w' hm => hDc w' hm.fr)) ?_
        rintro ⟨⟨tv, lp⟩, hta⟩
        dsimp only
        refine dy 13 ?_
        refine dy 14 ?_
        refine dy 15 ?_
        refine DR.c 16 (DOp.op1 rfl (OpTo.new rfl rfl nal) ?_)
        intro bt
        refine DR.c 17 ?_
        refine DOp.op1 rfl (osa (arr := ti64.zero.cells) (e := 64) (L' := lp ++ ((b4, CuC (some ad) c l (r4, false)) :: ((b5, Obj.cells (bkC ⟨x1, num8 x2.1, hwk, ts⟩ sa sc).toArray 27 (0, 0)) :: (L5 ++ (pool ++ [(b2, Obj.cells (bkC BkV.nul none 0).toArray 27 (0, 0))]))))) (txC (decT x4) tv).toArray (txC_one _ _) (hL := (perm_of fun f => by ((try dsimp only [CuC]) <;> simp only [List.map_append, List.map_cons, List.map_nil, List.sum_append, List.sum_cons, List.sum_nil] <;> omega))) (hs := by exact hT170 tv)) (fun _ => ?_)
        refine dy 18 ?_
        refine DR.done (by kernel_rfl) ?_
        exact RQ.toP (bt, ⟨(tv, lp), hta⟩) ⟨rfl, rfl, rfl, rfl, rfl, rfl, rfl, rfl, rfl, rfl, trivial⟩ (List.Perm.refl _) (List.Sublist.refl _)
      · refine DOp.op1 rfl (OpTo.new rfl rfl nal) ?_
        intro bt
        have hz : ((bt, Obj.cells ti64.zero.cells 64 (0, 0)) :: ((b4, CuC (some ad) c l (r4, false)) :: ((b5, Obj.cells (bkC ⟨x1, num8 x2.1, hwk, ts⟩ sa sc).toArray 27 (0, 0)) :: (L5 ++ (pool ++ [(b2, Obj.cells (bkC BkV.nul none 0).toArray 27 (0, 0))])))) : Hp).Perm ([] ++ ((bt, Obj.cells ti64.zero.cells 64 (0, 0)) :: ((b4, CuC (some ad) c l (r4, false)) :: ((b5, Obj.cells (bkC ⟨x1, num8 x2.1, hwk, ts⟩ sa sc).toArray 27 (0, 0)) :: (L5 ++ (pool ++ [(b2, Obj.cells (bkC BkV.nul none 0).toArray 27 (0, 0))])))))) := List.Perm.refl _
        refine DR.c 12 (DOp.op1 rfl (OpTo.callT Tryz.func52 hz (fun w' hm => hDc w' hm.fr)) ?_)
        rintro ⟨⟨tv, lp⟩, hta⟩
        dsimp only
        refine dy 13 ?_
        refine dy 14 ?_
        refine dy 15 ?_
        refine DR.c 17 ?_
        refine DOp.op1 rfl (osa (arr := ti64.zero.cells) (e := 64) (L' := lp ++ ((b4, CuC (some ad) c l (r4, false)) :: ((b5, Obj.cells (bkC ⟨x1, num8 x2.1, hwk, ts⟩ sa sc).toArray 27 (0, 0)) :: (L5 ++ (pool ++ [(b2, Obj.cells (bkC BkV.nul none 0).toArray 27 (0, 0))]))))) (txC (decT x4) tv).toArray (txC_one _ _) (hL := (perm_of fun f => by ((try dsimp only [CuC]) <;> simp only [List.map_append, List.map_cons, List.map_nil, List.sum_append, List.sum_cons, List.sum_nil] <;> omega))) (hs := by exact hT170 tv)) (fun _ => ?_)
        refine dy 18 ?_
        refine DR.done (by kernel_rfl) ?_
        exact RQ.toP (bt, ⟨(tv, lp), hta⟩) ⟨rfl, rfl, rfl, rfl, rfl, rfl, rfl, rfl, rfl, rfl, trivial⟩ (List.Perm.refl _) (List.Sublist.refl _)
    obtain ⟨bt, ⟨⟨tv, lp⟩, hta⟩⟩ := y
    dsimp only at hta ⊢
    have hT170 := hT170 tv
    have hT1 := txC_one (decT x4) tv
    obtain ⟨T, hT⟩ : ∃ T, T = txC (decT x4) tv := ⟨_, rfl⟩
    rw [← hT] at hT170 hT1 ⊢
    have hbd : badL (rows ++ [x4]) = (badL rows || decide (ee ≠ 0)) := by unfold badL; rw [List.any_append, List.any_cons, List.any_nil, Bool.or_false, hee]
    (repeat refine RC.seq ?_)
    refine RC.thenCut (Y := Unit) (fun _ => [(10, .pointer (some ⟨bt, 0, none⟩)), (9, .int .i64 m), (8, .int .i64 k), (7, .bool (badL (rows ++ [x4]))), (6, .int .i64 n), (5, .pointer (some ⟨b5, 0, none⟩)), (4, .pointer (some ⟨b4, 0, none⟩)), (2, .pointer (some ⟨b2, 0, none⟩)), (0, .slice (some ad) l.length c)]) (fun _ => (bt, Obj.cells T.toArray 64 (0, 0)) :: (lp ++ ((b4, CuC (some ad) c l (r4, false)) :: ((b5, Obj.cells (bkC ⟨x1, num8 x2.1, hwk, ts⟩ sa sc).toArray 27 (0, 0)) :: (L5 ++ (pool ++ [(b2, Obj.cells (bkC BkV.nul none 0).toArray 27 (0, 0))])))))) ?_ (fun _ => ?_)
    · cases hb5 : badL rows
      · rw [hb5, Bool.false_or] at hbd
        rw [hbd]
        refine x_ ?_
        exact RQ.toP () ⟨rfl, rfl, rfl, congrArg (fun z => some (Value.bool z)) (show (ee != 0) = decide (ee ≠ 0) from by by_cases h : ee = 0 <;> simp [h]), rfl, rfl, rfl, rfl, rfl, trivial⟩ (List.Perm.refl _) (List.Sublist.refl _)
      · rw [hb5, Bool.true_or] at hbd
        rw [hbd]
        refine x_ ?_
        exact RQ.toP () ⟨rfl, rfl, rfl, rfl, rfl, rfl, rfl, rfl, rfl, trivial⟩ (List.Perm.refl _) (List.Sublist.refl _)
    have r9 := bk_r9 ⟨x1, num8 x2.1, hwk, ts⟩ sa sc
    dsimp only at r9
    refine x_ ?_
    refine Run.nw (nbsl (parts := [(0, .tmp 84)]) T.toArray (fillS_1 170 _ T (by rw [← List.size_toArray]; exact hT170))) ?_
    intro b85
    refine Run.op1 (OpTo.append (L1 := (b85, Obj.cells T.toArray 64 (0, 0)) :: ((bt, Obj.cells T.toArray 64 (0, 0)) :: (lp ++ ((b4, CuC (some ad) c l (r4, false)) :: ((b5, Obj.cells (bkC ⟨x1, num8 x2.1, hwk, ts⟩ sa sc).toArray 27 (0, 0)) :: (pool ++ [(b2, Obj.cells (bkC BkV.nul none 0).toArray 27 (0, 0))])))))) tabOk hown (Src.at ⟨b85, 0, none⟩ 1 1 T (by rw [← List.size_toArray]; exact hT170) (Rd.rowAll m0)) rfl rfl rfl rfl rfl rfl rfl rfl rfl (perm_of fun f => by ((try dsimp only [CuC]) <;> simp only [List.map_append, List.map_cons, List.map_nil, List.sum_append, List.sum_cons, List.sum_nil] <;> omega)) hT1 (by unfold maxLen; omega) (by simp only [ti64]; omega)) ?_
    rintro ⟨⟨v32, l32⟩, h32⟩
    have h32 : Own 64 170 v32 (ts.length + 1) (rws txR ts ++ T) l32 := h32
    dsimp only
    obtain ⟨sa2, sc2, rfl, hsc2⟩ := h32.shape
    obtain ⟨ts2, hts2⟩ : ∃ ts2 : List TxP, ts2 = ts ++ [(decT x4, tv)] := ⟨_, rfl⟩
    have hlen2 : ts.length + 1 = ts2.length := by rw [hts2, List.length_append]; rfl
    have hrw2 : rws txR ts ++ T = rws txR ts2 := by rw [hts2, rws_app, rws_one, hT]; rfl
    rw [hlen2, hrw2] at h32
    rw [hlen2]
    refine x_ ?_
    refine Run.op1 (ostE (arr := (bkC ⟨x1, num8 x2.1, hwk, ts⟩ sa sc).toArray) (e := 27) (L' := l32 ++ ((b85, Obj.cells T.toArray 64 (0, 0)) :: ((bt, Obj.cells T.toArray 64 (0, 0)) :: (lp ++ ((b4, CuC (some ad) c l (r4, false)) :: (pool ++ [(b2, Obj.cells (bkC BkV.nul none 0).toArray 27 (0, 0))])))))) (bkC ⟨x1, num8 x2.1, hwk, ts2⟩ sa2 sc2).toArray (hL := (perm_of fun f => by ((try dsimp only [CuC]) <;> simp only [List.map_append, List.map_cons, List.map_nil, List.sum_append, List.sum_cons, List.sum_nil] <;> omega))) (he := by exact bk_w9 ⟨x1, num8 x2.1, hwk, ts⟩ ts2 sa sa2 sc sc2) (hf := by rw [hsz]; decide) (h1 := by exact one_s _ _ _)) (fun _ => ?_)
    refine x_ ?_
    have hdl : (r4.drop m).length = r4.length - m := List.length_drop
    have hat2 : ((l.length - (r4.drop m).length : Nat) : Int) = ((l.length - r4.length : Nat) : Int) + (m : Int) := by omega
    refine Run.op1 (ostE (arr := #[.slice (some ad) l.length c, .int .i64 ((l.length - r4.length : Nat) : Int), .bool false]) (e := 96) (L' := (b5, Obj.cells (bkC ⟨x1, num8 x2.1, hwk, ts2⟩ sa2 sc2).toArray 27 (0, 0)) :: (l32 ++ ((b85, Obj.cells T.toArray 64 (0, 0)) :: ((bt, Obj.cells T.toArray 64 (0, 0)) :: (lp ++ (pool ++ [(b2, Obj.cells (bkC BkV.nul none 0).toArray 27 (0, 0))])))))) #[.slice (some ad) l.length c, .int .i64 ((l.length - (r4.drop m).length : Nat) : Int), .bool false] (hL := (perm_of fun f => by ((try dsimp only [CuC]) <;> simp only [List.map_append, List.map_cons, List.map_nil, List.sum_append, List.sum_cons, List.sum_nil] <;> omega))) (he := by rw [hat2]; rfl) (hf := by exact Nat.le_of_ble_eq_true rfl) (h1 := by exact one_i _ _)) (fun _ => ?_)
    refine x_ ?_
    exact RQ.upP (k + 1) ((rows ++ [x4], r4.drop m), (ts2, (sa2, sc2)), (l32, lp ++ pool)) (Nat.lt_succ_self _) hk' ⟨⟨hst, (List.drop_suffix _ _).trans hr4s, by rw [List.length_append, hxl]; rfl⟩, ⟨by dsimp only; rw [hts2, List.map_append, List.map_append, htm]; rfl, fun x hx => by
      rcases List.mem_append.1 hx with h | h
      · exact hbt x h
      · rw [List.mem_singleton.1 h]; exact hx4b⟩, h32, fun w hw z hz => by
      dsimp only at hz
      rw [hts2] at hz
      rcases List.mem_append.1 hz with h | h
      · exact hat w hw.right z h
      · rw [List.mem_singleton.1 h]; exact hta w hw.left⟩ ⟨rfl, rfl, rfl, rfl, rfl, rfl, rfl, trivial⟩ (L1 := ((b4, CuC (some ad) c l (r4.drop m, false)) :: ((b5, Obj.cells (bkC ⟨x1, num8 x2.1, hwk, ts2⟩ sa2 sc2).toArray 27 (0, 0)) :: (l32 ++ ((lp ++ pool) ++ [(b2, Obj.cells (bkC BkV.nul none 0).toArray 27 (0, 0))])))) ++ ((b85, Obj.cells T.toArray 64 (0, 0)) :: ((bt, Obj.cells T.toArray 64 (0, 0)) :: []))) (perm_of fun f => by ((try dsimp only [CuC]) <;> simp only [List.map_append, List.map_cons, List.map_nil, List.sum_append, List.sum_cons, List.sum_nil] <;> omega)) (List.sublist_append_left _ _)
  obtain rfl : k = n := by omega
  have hdh := hbkS rows rk hrep
  refine x_ ?_
  refine Run.op1 (OpTo.cv Tryz.func53 (fun w' hm => cuEnd b4 a c l hl (rk, false) hrk w' (hm.has (b4, CuC a c l (rk, false)) (by repeat (first | exact List.mem_cons_self | apply List.mem_cons_of_mem | apply List.mem_append_right))))) (fun _ => ?_)
  by_cases hr0 : rk = []
  rotate_left
  · have hT : dkB l = BkV.nul := by unfold dkB; rw [hdh]; exact if_neg fun h => hr0 h.1
    have hE : dkE l = 4 := by unfold dkE; rw [hdh]; exact if_neg fun h => hr0 h.1
    rw [show endE (rk, false) = 4 from by show (if (false : Bool) = true then (2 : Int) else if rk ≠ [] then 4 else 0) = 4; rw [if_neg (by decide), if_pos hr0]]
    refine x_ ?_
    (repeat refine RC.seq ?_); refine RC.drawS mixed (N := 18) rfl ?_
    refine dy 0 ?_
    refine dy 1 ?_
    refine dy 2 ?_
    refine DR.p 3 rfl ?_
    refine DR.p 4 rfl ?_
    refine DR.p 5 rfl ?_
    refine DR.cp 6 rfl ?_
    refine DR.p 7 rfl ?_
    refine DR.p 8 rfl ?_
    refine DR.p 9 rfl ?_
    refine DR.p 10 rfl ?_
    refine DR.p 13 rfl ?_
    refine DR.p 14 rfl ?_
    refine DR.cp 11 rfl ?_
    refine DR.p 12 rfl ?_
    refine DR.p 15 rfl ?_
    refine DR.p 16 rfl ?_
    refine dy 17 ?_
    refine DR.done (by kernel_rfl) ?_
    refine x_ ?_
    refine Run.op1 (osa (arr := (bkC BkV.nul none 0).toArray) (e := 27) (L' := (b4, CuC a c l (rk, false)) :: ((b5, Obj.cells (bkC ⟨x1, num8 x2.1, hwk, ts⟩ sa sc).toArray 27 (0, 0)) :: (L5 ++ pool))) (bkC BkV.nul none 0).toArray (bkC_one _ _ _) (hL := (perm_of fun f => by ((try dsimp only [CuC]) <;> simp only [List.map_append, List.map_cons, List.map_nil, List.sum_append, List.sum_cons, List.sum_nil] <;> omega))) (hs := by exact hN10 _ _ _) (hf := by exact (hN10 _ _ _).symm)) (fun _ => ?_)
    refine x_ ?_
    exact RQ.ret2 rfl (Res.cellAll tabOk rfl rfl rfl m0 (hN10 _ _ _)) (Res.tmp rfl) fun w' hm => hnul 4 hT hE w' _ hm
  subst hr0
  rw [show endE ([], false) = 0 from rfl]
  obtain ⟨B, hB⟩ : ∃ B : BkV, B = ⟨x1, num8 x2.1, hwk, ts⟩ := ⟨_, rfl⟩
  have hkey : Key B (kOf x1 x2 rows) := by rw [hB]; exact ⟨rfl, rfl, by show ts.map (·.1) = _; rw [htm]; unfold kOf; rw [List.map_map]; rfl⟩
  have hat : ∀ w', Has L5 w' → Has pool w' → BkAt w' B sa sc := fun w' h1 h2 => by rw [hB]; exact ⟨hown.srcW h1, hat w' h2⟩
  have hBts : B.ts.map (·.1) = rows.map decT := by rw [hB]; exact htm
  have hbln : BkLn B := fun z hz => by
    have h1 : z.1 ∈ B.ts.map (·.1) := List.mem_map_of_mem hz
    rw [hBts] at h1
    obtain ⟨x, hx, e⟩ := List.mem_map.1 h1
    rw [← e]
    exact decT_ln (hbt x hx)
  rw [← hB]
  have hno : ¬ (MayB B ∧ bkB B = l) → dkB l = BkV.nul ∧ dkE l = 4 := fun hn => by
    have hn' : ¬ (([] : List Nat) = [] ∧ MayB (kOf x1 x2 rows) ∧ bkB (kOf x1 x2 rows) = l) := fun h => hn ⟨hkey.may.2 h.2.1, by rw [hkey.by]; exact h.2.2⟩
    constructor
    · unfold dkB; rw [hdh]; exact if_neg hn'
    · unfold dkE; rw [hdh]; exact if_neg hn'
  have hF10 : (bkC B sa sc).toArray.size = 10 := by rw [List.size_toArray, bkC_len]
  have hM1 := fun w' h => RMayB_calls B hbln sa sc w' h
  have hM2 := fun h1 h2 w' h => RBytes_calls B hbln h1 h2 sa sc w' h
  have hbad := fun h => bad_no (b := B) (rows_len hb hl hdh) hBts h
  have hNo := bkC_one B sa sc
  have hmm : ∀ w', Mem w [] ((b4, CuC a c l ([], false)) :: ((b5, Obj.cells (bkC B sa sc).toArray 27 (0, 0)) :: (L5 ++ (pool ++ [(b2, Obj.cells (bkC BkV.nul none 0).toArray 27 (0, 0))])))) w' → BkAt w' B sa sc := fun w' hm => hat w' (fun p hp => hm.has p (List.mem_cons_of_mem _ (List.mem_cons_of_mem _ (List.mem_append_left _ hp)))) (fun p hp => hm.has p (List.mem_cons_of_mem _ (List.mem_cons_of_mem _ (List.mem_append_right _ (List.mem_append_left _ hp)))))
  generalize hFF : bkC B sa sc = F at hF10 hM1 hM2 hNo hmm ⊢
  generalize hbl : badL rows = bd at hbad ⊢
  cases bd
  rotate_left
  · obtain ⟨hT, hE⟩ := hno (fun h => hbad rfl h.1)
    refine x_ ?_
    (repeat refine RC.seq ?_); refine RC.drawS mixed (N := 18) rfl ?_
    refine dy 0 ?_
    refine dy 1 ?_
    refine dy 2 ?_
    refine dy 3 ?_
    refine dy 4 ?_
    refine DR.p 5 rfl ?_
    refine DR.cp 6 rfl ?_
    refine DR.p 7 rfl ?_
    refine dy 8 ?_
    refine dy 9 ?_
    refine DR.p 10 rfl ?_
    refine DR.p 13 rfl ?_
    refine DR.p 14 rfl ?_
    refine DR.cp 11 rfl ?_
    refine DR.p 12 rfl ?_
    refine DR.p 15 rfl ?_
    refine dy 16 ?_
    refine dy 17 ?_
    refine DR.done (by kernel_rfl) ?_
    refine x_ ?_
    refine Run.op1 (osa (arr := (bkC BkV.nul none 0).toArray) (e := 27) (L' := (b4, CuC a c l ([], false)) :: ((b5, Obj.cells F.toArray 27 (0, 0)) :: (L5 ++ pool))) (bkC BkV.nul none 0).toArray (bkC_one _ _ _) (hL := (perm_of fun f => by ((try dsimp only [CuC]) <;> simp only [List.map_append, List.map_cons, List.map_nil, List.sum_append, List.sum_cons, List.sum_nil] <;> omega))) (hs := by exact hN10 _ _ _) (hf := by exact (hN10 _ _ _).symm)) (fun _ => ?_)
    refine x_ ?_
    exact RQ.ret2 rfl (Res.cellAll tabOk rfl rfl rfl m0 (hN10 _ _ _)) (Res.tmp rfl) fun w' hm => hnul 4 hT hE w' _ hm
  by_cases hM : MayB B
  rotate_left
  · obtain ⟨hT, hE⟩ := hno (fun h => hM h.1)
    rw [decide_eq_false hM] at hM1
    refine x_ ?_
    (repeat refine RC.seq ?_); refine RC.drawS mixed (N := 18) rfl ?_
    refine dy 0 ?_
    refine dy 1 ?_
    refine dy 2 ?_
    refine dy 3 ?_
    refine dy 4 ?_
    refine dy 5 ?_
    refine DR.c 6 (DOp.op1 rfl (OpTo.cv Tryz.func21 (fun w' hm => hM1 w' (hmm w' hm))) (fun _ => ?_))
    refine dy 7 ?_
    refine dy 8 ?_
    refine dy 9 ?_
    refine DR.p 10 rfl ?_
    refine DR.p 13 rfl ?_
    refine DR.p 14 rfl ?_
    refine DR.cp 11 rfl ?_
    refine DR.p 12 rfl ?_
    refine DR.p 15 rfl ?_
    refine dy 16 ?_
    refine dy 17 ?_
    refine DR.done (by kernel_rfl) ?_
    refine x_ ?_
    refine Run.op1 (osa (arr := (bkC BkV.nul none 0).toArray) (e := 27) (L' := (b4, CuC a c l ([], false)) :: ((b5, Obj.cells F.toArray 27 (0, 0)) :: (L5 ++ pool))) (bkC BkV.nul none 0).toArray (bkC_one _ _ _) (hL := (perm_of fun f => by ((try dsimp only [CuC]) <;> simp only [List.map_append, List.map_cons, List.map_nil, List.sum_append, List.sum_cons, List.sum_nil] <;> omega))) (hs := by exact hN10 _ _ _) (hf := by exact (hN10 _ _ _).symm)) (fun _ => ?_)
    refine x_ ?_
    exact RQ.ret2 rfl (Res.cellAll tabOk rfl rfl rfl m0 (hN10 _ _ _)) (Res.tmp rfl) fun w' hm => hnul 4 hT hE w' _ hm
  rw [decide_eq_true hM] at hM1
  have hM2 := hM2 (fun q hq => may_all hM q hq) hM.2.1.2
  refine x_ ?_
  (repeat refine RC.seq ?_); refine RC.drawS mixed (N := 18) rfl ?_
  refine dy 0 ?_
  refine dy 1 ?_
  refine dy 2 ?_
  refine dy 3 ?_
  refine dy 4 ?_
  refine dy 5 ?_
  refine DR.c 6 (DOp.op1 rfl (OpTo.cv Tryz.func21 (fun w' hm => hM1 w' (hmm w' hm))) (fun _ => ?_))
  refine dy 7 ?_
  refine dy 8 ?_
  refine dy 9 ?_
  refine dy 10 ?_
  refine dy 13 ?_
  refine DR.t 14 rfl (Val.bytesStr (a := l) tabOk rfl rfl rfl rfl rfl rfl rfl rfl hs.src) ?_
  refine DR.c 11 (DOp.op1 rfl (mkB Tryz.func47 (fun w' hm => hM2 w' (hmm w' hm))) ?_)
  rintro ⟨⟨v11, l11⟩, h11⟩
  dsimp only at h11 ⊢
  refine DR.c 12 ?_
  refine DOp.vl rfl (Val.bytesStr (a := bkB B) tabOk rfl rfl rfl rfl rfl rfl rfl rfl (h11.src (fun q hq => (by repeat (first | exact List.mem_append_left _ hq | exact hq | apply List.mem_append_right | apply List.mem_cons_of_mem))))) ?_
  by_cases he : bkB B = l
  rotate_left
  · obtain ⟨hT, hE⟩ := hno (fun h => he h.2)
    refine DR.t 15 rfl (Val.eq (Val.neStr (a := bkB B) (b := l) rfl rfl rfl (bt_bk hM) hb) (show _ = Value.bool true from by rw [decide_eq_false he]; rfl)) ?_
    refine dy 16 ?_
    refine dy 17 ?_
    refine DR.done (by kernel_rfl) ?_
    refine x_ ?_
    refine Run.op1 (osa (arr := (bkC BkV.nul none 0).toArray) (e := 27) (L' := l11 ++ ((b4, CuC a c l ([], false)) :: ((b5, Obj.cells F.toArray 27 (0, 0)) :: (L5 ++ pool)))) (bkC BkV.nul none 0).toArray (bkC_one _ _ _) (hL := (perm_of fun f => by ((try dsimp only [CuC]) <;> simp only [List.map_append, List.map_cons, List.map_nil, List.sum_append, List.sum_cons, List.sum_nil] <;> omega))) (hs := by exact hN10 _ _ _) (hf := by exact (hN10 _ _ _).symm)) (fun _ => ?_)
    refine x_ ?_
    exact RQ.ret2 rfl (Res.cellAll tabOk rfl rfl rfl m0 (hN10 _ _ _)) (Res.tmp rfl) fun w' hm => hnul 4 hT hE w' _ hm
  refine DR.t 15 rfl (Val.eq (Val.neStr (a := bkB B) (b := l) rfl rfl rfl (bt_bk hM) hb) (show _ = Value.bool false from by rw [decide_eq_true he]; rfl)) ?_
  refine dy 16 ?_
  refine dy 17 ?_
  refine DR.done (by kernel_rfl) ?_
  have hyes : ([] : List Nat) = [] ∧ MayB (kOf x1 x2 rows) ∧ bkB (kOf x1 x2 rows) = l := ⟨rfl, hkey.may.1 hM, by rw [← hkey.by]; exact he⟩
  have hT : dkB l = kOf x1 x2 rows := by unfold dkB; rw [hdh]; exact if_pos hyes
  have hE : dkE l = 0 := by unfold dkE; rw [hdh]; exact if_pos hyes
  refine x_ ?_
  refine Run.op1 (osa (arr := (bkC BkV.nul none 0).toArray) (e := 27) (L' := l11 ++ ((b4, CuC a c l ([], false)) :: ((b5, Obj.cells F.toArray 27 (0, 0)) :: (L5 ++ pool)))) F.toArray hNo (hL := (perm_of fun f => by ((try dsimp only [CuC]) <;> simp only [List.map_append, List.map_cons, List.map_nil, List.sum_append, List.sum_cons, List.sum_nil] <;> omega))) (hs := by exact hF10) (hf := by exact (hN10 _ _ _).symm)) (fun _ => ?_)
  refine x_ ?_
  rw [hE]
  exact RQ.ret2 rfl (Res.cellAll tabOk rfl rfl rfl m0 hF10) (Res.tmp rfl) fun w' hm => by subst hFF; exact Turns.of (Y := DecY l) (V := fun y => .tuple #[.agg (bkC y.b y.a y.c).toArray, .int .i64 0]) (L' := fun y => y.bl) (Lst := []) (y := ⟨B, sa, sc, L5 ++ pool, by rw [hT]; exact hkey, fun w hw => hat w hw.left hw.right, hbln⟩) hm (Lr := (b2, Obj.cells (bkC B sa sc).toArray 27 (0, 0)) :: (l11 ++ [(b4, CuC a c l ([], false)), (b5, Obj.cells (bkC B sa sc).toArray 27 (0, 0))])) (by dsimp only; exact (perm_of fun f => by ((try dsimp only [CuC]) <;> simp only [List.map_append, List.map_cons, List.map_nil, List.sum_append, List.sum_cons, List.sum_nil] <;> omega)))
end Go.Proofs.YtfoeakgnkfcbjaaGreatDoor
end
