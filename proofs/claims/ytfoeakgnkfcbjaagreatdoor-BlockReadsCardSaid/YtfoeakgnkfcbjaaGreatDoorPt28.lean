/- Lemmas. -/
import Derived.Test.YtfoeakgnkfcbjaaGreatDoorPt27
set_option linter.unusedSimpArgs false
set_option linter.unusedVariables false
section
/- block: Decode's closure. -/
namespace Go.Proofs.YtfoeakgnkfcbjaaGreatDoor
attribute [local irreducible] Go.Vc.Run Go.Vc.RC Go.Vc.RQ Go.Vc.DR Go.Vc.DOp Go.Vc.Knows Go.Vc.At
set_option maxHeartbeats 400000
set_option maxRecDepth 10000
open Go Go.Vc Go.Sha
def pBk : Ps (By 8 × By 8 × List (List Nat)) := pAnd (pB 8) (pAnd (pB 8) (pRow pByt))
def bkE (x : By 8 × By 8 × List (List Nat)) : List Nat := x.1.1 ++ (x.2.1.1 ++ rowB bytE x.2.2)
noncomputable def badL (rows : List (List Nat)) : Bool := rows.any fun x => decide (decE x ≠ 0)
theorem decT_ln {x : List Nat} (hb : Bt x) : TxLn (decT x) := by
  unfold decT
  rcases hp : pTx x with _ | ⟨t, r⟩
  · exact ⟨Nat.zero_le _, Nat.zero_le _, Nat.zero_le _, Nat.zero_le _, Nat.zero_le _, Nat.zero_le _⟩
  · dsimp only
    split
    · exact ⟨Nat.zero_le _, Nat.zero_le _, Nat.zero_le _, Nat.zero_le _, Nat.zero_le _, Nat.zero_le _⟩
    · exact ((good_tx.b x t r hb hp).2).ln
/-- What is read: the block, with what it hangs on. -/
structure DkR (l : List Nat) where
  p : By 8
  q : By 8
  rows : List (List Nat)
  r : List Nat
  h : pBk l = some ((p, q, rows), r)
  b : BkV
  hp : b.pv = p
  hq : b.wk = num8 q.1
  ht : b.ts.map (·.1) = rows.map decT
  hbt : ∀ x ∈ rows, Bt x
  a : Option Addr
  c : Nat
  L5 : Hp
  pool : Hp
  own : Own 64 170 (.slice a b.ts.length c) b.ts.length (rws txR b.ts) L5
  hat : ∀ w, Has pool w → ∀ z ∈ b.ts, TxAt w z.1 z.2
/-- Short at a place, or read. -/
inductive DkO (l : List Nat) where
  | short (k : Nat) (hk : k ≤ l.length) (h : pBk l = none)
  | read (d : DkR l)
def DkO.o {l : List Nat} : DkO l → Option (TypeId × Value)
  | .short _ _ _ => some (126, .agg #[])
  | .read _ => none
def DkO.k {l : List Nat} : DkO l → Nat
  | .short k _ _ => k
  | .read d => l.length - d.r.length
noncomputable def DkO.L {l : List Nat} (b4 b5 : Nat) : DkO l → Hp
  | .short _ _ _ => []
  | .read d => (b4, Obj.cells (bkC d.b d.a d.c).toArray 27 (0, 0)) :: ((b5, Obj.cells #[.bool (badL d.rows)] 4 (0, 0)) :: (d.L5 ++ d.pool))
def BkV.nul : BkV := ⟨By.z 8, 0, by decide, []⟩
theorem bk_w0 (b : BkV) (p : By 8) (a : Option Addr) (c : Nat) : wrAt (bkC b a c).toArray 0 (u8s p.1) = (bkC { b with pv := p } a c).toArray := wr_at' (pre := []) (old := u8s b.pv.1) (new := u8s p.1) (post := [.float .f64 b.wk, .slice a b.ts.length c]) rfl rfl (by rw [u8s_len, u8s_len, b.pv.2.1, p.2.1]) rfl
theorem bk_w8 (b : BkV) (k : Nat) (hk : k < 18446744073709551616) (a : Option Addr) (c : Nat) : wrAt (bkC b a c).toArray 8 [.float .f64 k] = (bkC { b with wk := k, hw := hk } a c).toArray := wr_at' (pre := u8s b.pv.1) (old := [.float .f64 b.wk]) (new := [.float .f64 k]) (post := [.slice a b.ts.length c]) rfl rfl rfl (by rw [u8s_len, b.pv.2.1])
theorem bk_w9 (b : BkV) (ts : List TxP) (a a' : Option Addr) (c c' : Nat) : wrAt (bkC b a c).toArray 9 [.slice a' ts.length c'] = (bkC { b with ts := ts } a' c').toArray := wr_at' (pre := u8s b.pv.1 ++ [.float .f64 b.wk]) (old := [.slice a b.ts.length c]) (new := [.slice a' ts.length c']) (post := []) (by unfold bkC; rw [List.append_assoc]; rfl) (by unfold bkC; rw [List.append_assoc]; rfl) rfl (by rw [List.length_append, u8s_len, b.pv.2.1]; rfl)
theorem bk_zero : ti27.zero.cells = (bkC BkV.nul none 0).toArray := by kernel_rfl
theorem one_bB (z : Bool) : ∀ u ∈ (Value.bool z).cells.toList, u.oneCell' = true := by
  intro u hu
  simp only [Value.cells, List.mem_cons, List.not_mem_nil, or_false] at hu
  subst hu; rfl
theorem one_f (k : Nat) : ∀ u ∈ (Value.float .f64 k).cells.toList, u.oneCell' = true := by
  intro u hu
  simp only [Value.cells, List.mem_cons, List.not_mem_nil, or_false] at hu
  subst hu; rfl
set_option maxRecDepth 10000 in set_option maxHeartbeats 4000000 in
theorem dk1_calls (l : List Nat) (a : Option Addr) (rb b4 b5 : Nat) (w : World) (hI : InB w ([(rb, RdS a l l), (b4, Obj.cells (bkC BkV.nul none 0).toArray 27 (0, 0)), (b5, Obj.cells #[.bool false] 4 (0, 0))].map (·.1)) a l) (hw : Has [(rb, RdS a l l), (b4, Obj.cells (bkC BkV.nul none 0).toArray 27 (0, 0)), (b5, Obj.cells #[.bool false] 4 (0, 0))] w) (hnd : ([(rb, RdS a l l), (b4, Obj.cells (bkC BkV.nul none 0).toArray 27 (0, 0)), (b5, Obj.cells #[.bool false] 4 (0, 0))].map (·.1)).Nodup) :
    TurnsO Tryz.prog 41 [.pointer (some ⟨rb, 0, none⟩), .pointer (some ⟨b4, 0, none⟩), .pointer (some ⟨b5, 0, none⟩)] w [(rb, RdS a l l), (b4, Obj.cells (bkC BkV.nul none 0).toArray 27 (0, 0)), (b5, Obj.cells #[.bool false] 4 (0, 0))] (Y := DkO l) DkO.o (fun y => (rb, RdC a l.length y.k) :: y.L b4 b5) := by
  refine enter Tryz.func41 rfl (Mem.init (S0 := [(rb, RdS a l l), (b4, Obj.cells (bkC BkV.nul none 0).toArray 27 (0, 0)), (b5, Obj.cells #[.bool false] 4 (0, 0))].map (·.1)) hw (fun p hp => List.mem_map_of_mem hp) hnd) rfl ?_
  have hbl := hI.bt
  have hfail : ∀ (E : Env) (k : Nat) (Lr : Hp), k ≤ l.length → pBk l = none → RQ Tryz.f41.ntmps w ([(rb, RdS a l l), (b4, Obj.cells (bkC BkV.nul none 0).toArray 27 (0, 0)), (b5, Obj.cells #[.bool false] 4 (0, 0))].map (·.1)) (.panic shortP) (bodyPost Tryz.prog Tryz.f41 fun e w' => ∃ y : DkO l, e = endO y.o ∧ Fr ([(rb, RdS a l l), (b4, Obj.cells (bkC BkV.nul none 0).toArray 27 (0, 0)), (b5, Obj.cells #[.bool false] 4 (0, 0))].map (·.1)) w w' ∧ Has ((rb, RdC a l.length y.k) :: y.L b4 b5) w' ∧ (∀ p ∈ (rb, RdC a l.length y.k) :: y.L b4 b5, w.heap.size ≤ p.1 ∨ p.1 ∈ [(rb, RdS a l l), (b4, Obj.cells (bkC BkV.nul none 0).toArray 27 (0, 0)), (b5, Obj.cells #[.bool false] 4 (0, 0))].map (·.1)) ∧ (((rb, RdC a l.length y.k) :: y.L b4 b5).map (·.1)).Nodup) E ((rb, RdC a l.length k) :: Lr) := fun E k Lr hk hn =>
    RQ.panic fun w' hm => TurnsO.of (Y := DkO l) (o := DkO.o) (L' := fun y => (rb, RdC a l.length y.k) :: y.L b4 b5) (.short k hk hn) rfl hm (Lr := Lr) (List.Perm.refl _)
  have hp1 : ([(rb, RdS a l l), (b4, Obj.cells (bkC BkV.nul none 0).toArray 27 (0, 0)), (b5, Obj.cells #[.bool false] 4 (0, 0))] : Hp).Perm (((rb, RdS a l l) :: []) ++ [(b4, Obj.cells (bkC BkV.nul none 0).toArray 27 (0, 0)), (b5, Obj.cells #[.bool false] 4 (0, 0))]) := List.Perm.refl _
  refine x_ ?_
  rcases h1 : pB 8 l with _ | ⟨x1, r1⟩
  · refine Run.op1 (callRn Tryz.func42 (rdHash rb a l l (List.suffix_refl l)) hI hp1 h1 (fun k hk => ?_)) (fun y => y.elim)
    repeat first | refine RQ.thenPanic ?_ | refine RQ.blockPanic ?_
    exact hfail _ _ _ hk (by simp [pBk, pAnd, h1])
  have hr1 := (good_B 8).sfx hbl (List.suffix_refl l) h1
  refine Run.op1 (callRs Tryz.func42 (rdHash rb a l l (List.suffix_refl l)) hI hp1 h1) (fun _ => ?_)
  dsimp only [List.append_nil, List.cons_append, List.nil_append]
  have hx8 : (u8s x1.1).toArray.size = 8 := by rw [List.size_toArray, u8s_len, x1.2.1]
  have hsz := fun b a c => (show (bkC b a c).toArray.size = 10 by rw [List.size_toArray, bkC_len])
  refine x_ ?_
  refine Run.op1 (ostE (arr := (bkC BkV.nul none 0).toArray) (e := 27) (L' := [(rb, RdS a l r1), (b5, Obj.cells #[.bool false] 4 (0, 0))]) (bkC { BkV.nul with pv := x1 } none 0).toArray (hL := (perm_of fun f => by (simp only [List.map_append, List.map_cons, List.map_nil, List.sum_append, List.sum_cons, List.sum_nil] <;> omega))) (hs := by exact hx8) (he := by exact bk_w0 BkV.nul x1 none 0) (hf := by rw [hsz]; decide) (h1 := by exact u8s_one _)) (fun _ => ?_)
  refine x_ ?_
  have hp2 : ([(b4, Obj.cells (bkC { BkV.nul with pv := x1 } none 0).toArray 27 (0, 0)), (rb, RdS a l r1), (b5, Obj.cells #[.bool false] 4 (0, 0))] : Hp).Perm (((rb, RdS a l r1) :: []) ++ [(b4, Obj.cells (bkC { BkV.nul with pv := x1 } none 0).toArray 27 (0, 0)), (b5, Obj.cells #[.bool false] 4 (0, 0))]) := (perm_of fun f => by (simp only [List.map_append, List.map_cons, List.map_nil, List.sum_append, List.sum_cons, List.sum_nil] <;> omega))
  rcases h2 : pB 8 r1 with _ | ⟨x2, r2⟩
  · refine Run.op1 (callRn Tryz.func42 (rdHash rb a l r1 hr1) hI hp2 h2 (fun k hk => ?_)) (fun y => y.elim)
    repeat first | refine RQ.thenPanic ?_ | refine RQ.blockPanic ?_
    exact hfail _ _ _ hk (by simp [pBk, pAnd, h1, h2])
  have hr2 := (good_B 8).sfx hbl hr1 h2
  refine Run.op1 (callRs Tryz.func42 (rdHash rb a l r1 hr1) hI hp2 h2) (fun _ => ?_)
  dsimp only [List.append_nil, List.cons_append, List.nil_append]
  have hwk : num8 x2.1 < 18446744073709551616 := by have := num8_lt x2.1 x2.2.2; rw [x2.2.1] at this; exact this
  refine x_ ?_
  refine Run.op1 (OpTo.cv Tryz.func43 (fun w' _ => FOf_calls x2.1 x2.2.1 x2.2.2 w')) (fun _ => ?_)
  refine x_ ?_
  refine Run.op1 (ostE (arr := (bkC { BkV.nul with pv := x1 } none 0).toArray) (e := 27) (L' := [(rb, RdS a l r2), (b5, Obj.cells #[.bool false] 4 (0, 0))]) (bkC ⟨x1, num8 x2.1, hwk, []⟩ none 0).toArray (hL := (perm_of fun f => by (simp only [List.map_append, List.map_cons, List.map_nil, List.sum_append, List.sum_cons, List.sum_nil] <;> omega))) (he := by exact bk_w8 { BkV.nul with pv := x1 } (num8 x2.1) hwk none 0) (hf := by rw [hsz]; decide) (h1 := by exact one_f _)) (fun _ => ?_)
  refine x_ ?_
  have hp3 : ([(b4, Obj.cells (bkC ⟨x1, num8 x2.1, hwk, []⟩ none 0).toArray 27 (0, 0)), (rb, RdS a l r2), (b5, Obj.cells #[.bool false] 4 (0, 0))] : Hp).Perm (((rb, RdS a l r2) :: []) ++ [(b4, Obj.cells (bkC ⟨x1, num8 x2.1, hwk, []⟩ none 0).toArray 27 (0, 0)), (b5, Obj.cells #[.bool false] 4 (0, 0))]) := (perm_of fun f => by (simp only [List.map_append, List.map_cons, List.map_nil, List.sum_append, List.sum_cons, List.sum_nil] <;> omega))
  rcases h3 : pN 1 r2 with _ | ⟨x3, r3⟩
  · refine Run.op1 (callRn Tryz.func44 (rdNum 1 (by decide) rb a l r2 hr2) hI hp3 h3 (fun k hk => ?_)) (fun y => y.elim)
    repeat first | refine RQ.thenPanic ?_ | refine RQ.blockPanic ?_
    exact hfail _ _ _ hk (by simp [pBk, pAnd, pRow, h1, h2, h3])
  have hr3 := (good_N 1).sfx hbl hr2 h3
  refine Run.op1 (callRs Tryz.func44 (rdNum 1 (by decide) rb a l r2 hr2) hI hp3 h3) (fun _ => ?_)
  dsimp only [List.append_nil, List.cons_append, List.nil_append]
  obtain ⟨n, rfl, hn⟩ := pN_nat h3 (fun x hx => hbl x (hr2.mem hx))
  have hrow : pRow pByt r2 = pRep pByt n r3 := by simp [pRow, h3]
  have hbkN : pRep pByt n r3 = none → pBk l = none := fun h => by simp [pBk, pAnd, h1, h2, hrow, h]
  have hbkS : ∀ rows r, pRep pByt n r3 = some (rows, r) → pBk l = some ((x1, x2, rows), r) := fun rows r h => by simp [pBk, pAnd, h1, h2, hrow, h]
  refine x_ ?_
  refine RC.up n (D := (List (List Nat) × List Nat) × (List TxP × (Option Addr × Nat)) × (Hp × Hp)) (fun k d => (pRep pByt k r3 = some (d.1.1, d.1.2) ∧ d.1.2 <:+ l ∧ d.1.1.length = k) ∧ (d.2.1.1.map (·.1) = d.1.1.map decT ∧ ∀ x ∈ d.1.1, Bt x) ∧ Own 64 170 (.slice d.2.1.2.1 d.2.1.1.length d.2.1.2.2) d.2.1.1.length (rws txR d.2.1.1) d.2.2.1 ∧ ∀ w, Has d.2.2.2 w → ∀ z ∈ d.2.1.1, TxAt w z.1 z.2) (fun k d => [(15, .int .i64 k), (14, .int .i64 n), (2, .pointer (some ⟨b5, 0, none⟩)), (1, .pointer (some ⟨b4, 0, none⟩)), (0, .pointer (some ⟨rb, 0, none⟩))]) (fun _ d => (rb, RdS a l d.1.2) :: ((b4, Obj.cells (bkC ⟨x1, num8 x2.1, hwk, d.2.1.1⟩ d.2.1.2.1 d.2.1.2.2).toArray 27 (0, 0)) :: ((b5, Obj.cells #[.bool (badL d.1.1)] 4 (0, 0)) :: (d.2.2.1 ++ d.2.2.2)))) 0 (([], r3), ([], (none, 0)), ([], [])) (Nat.zero_le _) ⟨⟨rfl, hr3, rfl⟩, ⟨rfl, fun x hx => by cases hx⟩, Own.nil, fun _ _ z hz => by cases hz⟩ ⟨rfl, rfl, rfl, rfl, rfl, trivial⟩ (List.Sublist.refl _) ?_
  rintro k ⟨⟨rows, rk⟩, ⟨ts, ⟨sa, sc⟩⟩, ⟨L5, pool⟩⟩ hk ⟨⟨hrep, hrk, hxl⟩, ⟨htm, hbt⟩, hown, hat⟩
  dsimp only at hrep hrk hxl htm hbt hown hat ⊢
  have htl : ts.length = k := by rw [← hxl]; have := congrArg List.length htm; simpa using this
  by_cases hk' : k < n
  · refine x_ ?_
    have hp4 : ((rb, RdS a l rk) :: ((b4, Obj.cells (bkC ⟨x1, num8 x2.1, hwk, ts⟩ sa sc).toArray 27 (0, 0)) :: ((b5, Obj.cells #[.bool (badL rows)] 4 (0, 0)) :: (L5 ++ pool))) : Hp).Perm (((rb, RdS a l rk) :: []) ++ ((b4, Obj.cells (bkC ⟨x1, num8 x2.1, hwk, ts⟩ sa sc).toArray 27 (0, 0)) :: ((b5, Obj.cells #[.bool (badL rows)] 4 (0, 0)) :: (L5 ++ pool)))) := List.Perm.refl _
    rcases h4 : pByt rk with _ | ⟨x4, r4⟩
    · refine Run.op1 (callRn Tryz.func46 (rdByt rb a l rk hrk) hI hp4 h4 (fun k' hk'' => ?_)) (fun y => y.elim)
      repeat first | refine RQ.thenPanic ?_ | refine RQ.blockPanic ?_
      exact hfail _ _ _ hk'' (hbkN (pRep_none hrep h4 n hk'))
    have hr4 := good_Byt.sfx hbl hrk h4
    have hst := pRep_step hrep h4
    refine Run.op1 (callRs Tryz.func46 (rdByt rb a l rk hrk) hI hp4 h4) ?_
    rintro ⟨⟨v19, l19⟩, h19⟩
    dsimp only [List.append_nil, List.cons_append, List.nil_append] at h19 ⊢
    refine x_ ?_
    have hx4b : Bt x4 := ((good_Byt.b rk x4 r4 (fun z hz => hbl z (hrk.mem hz)) h4).2).2
    have hx4l : x4.length ≤ 131072 := by
      have e := (good_Byt.b rk x4 r4 (fun z hz => hbl z (hrk.mem hz)) h4).1
      have := congrArg List.length e
      rw [List.length_append] at this
      unfold bytE at this
      rw [List.length_append] at this
      have := hrk.length_le
      have := hI.len
      omega
    have hz5 : ((rb, RdS a l r4) :: (l19 ++ ((b4, Obj.cells (bkC ⟨x1, num8 x2.1, hwk, ts⟩ sa sc).toArray 27 (0, 0)) :: ((b5, Obj.cells #[.bool (badL rows)] 4 (0, 0)) :: (L5 ++ pool)))) : Hp).Perm ([] ++ ((rb, RdS a l r4) :: (l19 ++ ((b4, Obj.cells (bkC ⟨x1, num8 x2.1, hwk, ts⟩ sa sc).toArray 27 (0, 0)) :: ((b5, Obj.cells #[.bool (badL rows)] 4 (0, 0)) :: (L5 ++ pool)))))) := List.Perm.refl _
    refine Run.op1 (OpTo.callT Tryz.func45 hz5 (fun w' hm => TDecode_calls x4 hx4l hx4b v19 w' (h19.srcW (fun p hp => hm.has p (List.mem_cons_of_mem _ (List.mem_append_left _ hp)))))) ?_
    rintro ⟨⟨tv, lp⟩, hta⟩
    dsimp only at hta ⊢
    have hT170 : (txC (decT x4) tv).toArray.size = 170 := by rw [List.size_toArray, txC_len]
    have hT1 := txC_one (decT x4) tv
    obtain ⟨T, hT⟩ : ∃ T, T = txC (decT x4) tv := ⟨_, rfl⟩
    rw [← hT] at hT170 hT1 ⊢
    obtain ⟨ee, hee⟩ : ∃ ee, ee = decE x4 := ⟨_, rfl⟩
    rw [← hee]
    refine x_ ?_
    refine Run.nw nal ?_
    intro bt
    refine x_ ?_
    refine Run.op1 (osa (arr := ti64.zero.cells) (e := 64) (L' := lp ++ ((rb, RdS a l r4) :: (l19 ++ ((b4, Obj.cells (bkC ⟨x1, num8 x2.1, hwk, ts⟩ sa sc).toArray 27 (0, 0)) :: ((b5, Obj.cells #[.bool (badL rows)] 4 (0, 0)) :: (L5 ++ pool)))))) T.toArray hT1 (hL := (perm_of fun f => by (simp only [List.map_append, List.map_cons, List.map_nil, List.sum_append, List.sum_cons, List.sum_nil] <;> omega))) (hs := by exact hT170)) (fun _ => ?_)
    refine Run.a (Val.of rfl) ?_
    refine Run.nil (RQ.next ?_)
    refine RC.seq ?_
    have hbd : badL (rows ++ [x4]) = (badL rows || decide (ee ≠ 0)) := by unfold badL; rw [List.any_append, List.any_cons, List.any_nil, Bool.or_false, hee]
    refine RC.thenCut (Y := Unit) (fun _ => [(15, .int .i64 k), (14, .int .i64 n), (4, .pointer (some ⟨bt, 0, none⟩)), (2, .pointer (some ⟨b5, 0, none⟩)), (1, .pointer (some ⟨b4, 0, none⟩)), (0, .pointer (some ⟨rb, 0, none⟩))]) (fun _ => (b5, Obj.cells #[.bool (badL (rows ++ [x4]))] 4 (0, 0)) :: ((bt, Obj.cells T.toArray 64 (0, 0)) :: (lp ++ ((rb, RdS a l r4) :: (l19 ++ ((b4, Obj.cells (bkC ⟨x1, num8 x2.1, hwk, ts⟩ sa sc).toArray 27 (0, 0)) :: (L5 ++ pool))))))) ?_ (fun _ => ?_)
    · have rb5 : ∀ z : Bool, rdAt ti4 #[Value.bool z] 0 = some (.bool z) := fun z => rfl
      have hrb5 := rb5 (badL rows)
      cases hb5 : badL rows
      · rw [hb5] at hrb5
        rw [hb5, Bool.false_or] at hbd
        rw [hbd]
        refine x_ ?_
        refine Run.op1 (ostE (arr := #[.bool false]) (e := 4) (L' := ((bt, Obj.cells T.toArray 64 (0, 0)) :: (lp ++ ((rb, RdS a l r4) :: (l19 ++ ((b4, Obj.cells (bkC ⟨x1, num8 x2.1, hwk, ts⟩ sa sc).toArray 27 (0, 0)) :: (L5 ++ pool))))))) #[.bool (bne ee 0)] (hL := (perm_of fun f => by (simp only [List.map_append, List.map_cons, List.map_nil, List.sum_append, List.sum_cons, List.sum_nil] <;> omega))) (he := by rfl) (hf := by decide) (h1 := by exact one_bB _)) (fun _ => ?_)
        refine x_ ?_
        exact RQ.toP () ⟨rfl, rfl, rfl, rfl, rfl, rfl, trivial⟩ (by rw [show (ee != 0) = decide (ee ≠ 0) from by by_cases h : ee = 0 <;> simp [h]]) (List.Sublist.refl _)
      · rw [hb5] at hrb5
        rw [hb5, Bool.true_or] at hbd
        rw [hbd]
        refine x_ ?_
        refine Run.op1 (ostE (arr := #[.bool true]) (e := 4) (L' := ((bt, Obj.cells T.toArray 64 (0, 0)) :: (lp ++ ((rb, RdS a l r4) :: (l19 ++ ((b4, Obj.cells (bkC ⟨x1, num8 x2.1, hwk, ts⟩ sa sc).toArray 27 (0, 0)) :: (L5 ++ pool))))))) #[.bool true] (hL := (perm_of fun f => by (simp only [List.map_append, List.map_cons, List.map_nil, List.sum_append, List.sum_cons, List.sum_nil] <;> omega))) (he := by rfl) (hf := by decide) (h1 := by exact one_bB _)) (fun _ => ?_)
        refine x_ ?_
        exact RQ.toP () ⟨rfl, rfl, rfl, rfl, rfl, rfl, trivial⟩ (List.Perm.refl _) (List.Sublist.refl _)
    have r9 := bk_r9 ⟨x1, num8 x2.1, hwk, ts⟩ sa sc
    dsimp only at r9
    refine x_ ?_
    refine Run.nw (nbsl (parts := [(0, .tmp 30)]) T.toArray (fillS_1 170 _ T (by rw [← List.size_toArray]; exact hT170))) ?_
    intro b31
    refine Run.op1 (OpTo.append (L1 := (b31, Obj.cells T.toArray 64 (0, 0)) :: ((b5, Obj.cells #[.bool (badL (rows ++ [x4]))] 4 (0, 0)) :: ((bt, Obj.cells T.toArray 64 (0, 0)) :: (lp ++ ((rb, RdS a l r4) :: (l19 ++ ((b4, Obj.cells (bkC ⟨x1, num8 x2.1, hwk, ts⟩ sa sc).toArray 27 (0, 0)) :: pool))))))) tabOk hown (Src.at ⟨b31, 0, none⟩ 1 1 T (by rw [← List.size_toArray]; exact hT170) (Rd.rowAll m0)) rfl rfl rfl rfl rfl rfl rfl rfl rfl (perm_of fun f => by (simp only [List.map_append, List.map_cons, List.map_nil, List.sum_append, List.sum_cons, List.sum_nil] <;> omega)) hT1 (by unfold maxLen; omega) (by simp only [ti64]; omega)) ?_
    rintro ⟨⟨v32, l32⟩, h32⟩
    have h32 : Own 64 170 v32 (ts.length + 1) (rws txR ts ++ T) l32 := h32
    dsimp only
    obtain ⟨sa2, sc2, rfl, hsc2⟩ := h32.shape
    obtain ⟨ts2, hts2⟩ : ∃ ts2 : List TxP, ts2 = ts ++ [(decT x4, tv)] := ⟨_, rfl⟩
    have hlen2 : ts.length + 1 = ts2.length := by rw [hts2, List.length_append]; rfl
    have hrw2 : rws txR ts ++ T = rws txR ts2 := by rw [hts2, rws_app, rws_one, hT]; rfl
    rw [hlen2, hrw2] at h32
    rw [hlen2]
    refine x_ ?_
    refine Run.op1 (ostE (arr := (bkC ⟨x1, num8 x2.1, hwk, ts⟩ sa sc).toArray) (e := 27) (L' := l32 ++ ((b31, Obj.cells T.toArray 64 (0, 0)) :: ((b5, Obj.cells #[.bool (badL (rows ++ [x4]))] 4 (0, 0)) :: ((bt, Obj.cells T.toArray 64 (0, 0)) :: (lp ++ ((rb, RdS a l r4) :: (l19 ++ pool))))))) (bkC ⟨x1, num8 x2.1, hwk, ts2⟩ sa2 sc2).toArray (hL := (perm_of fun f => by (simp only [List.map_append, List.map_cons, List.map_nil, List.sum_append, List.sum_cons, List.sum_nil] <;> omega))) (he := by exact bk_w9 ⟨x1, num8 x2.1, hwk, ts⟩ ts2 sa sa2 sc sc2) (hf := by rw [hsz]; decide) (h1 := by exact one_s _ _ _)) (fun _ => ?_)
    refine x_ ?_
    exact RQ.upP (k + 1) ((rows ++ [x4], r4), (ts2, (sa2, sc2)), (l32, lp ++ pool)) (Nat.lt_succ_self _) hk' ⟨⟨hst, hr4, by rw [List.length_append, hxl]; rfl⟩, ⟨by dsimp only; rw [hts2, List.map_append, List.map_append, htm]; rfl, fun x hx => by
      rcases List.mem_append.1 hx with h | h
      · exact hbt x h
      · rw [List.mem_singleton.1 h]; exact hx4b⟩, h32, fun w hw z hz => by
      dsimp only at hz
      rw [hts2] at hz
      rcases List.mem_append.1 hz with h | h
      · exact hat w hw.right z h
      · rw [List.mem_singleton.1 h]; exact hta w hw.left⟩ ⟨rfl, rfl, rfl, rfl, rfl, trivial⟩ (L1 := ((rb, RdS a l r4) :: ((b4, Obj.cells (bkC ⟨x1, num8 x2.1, hwk, ts2⟩ sa2 sc2).toArray 27 (0, 0)) :: ((b5, Obj.cells #[.bool (badL (rows ++ [x4]))] 4 (0, 0)) :: (l32 ++ (lp ++ pool))))) ++ ((b31, Obj.cells T.toArray 64 (0, 0)) :: ((bt, Obj.cells T.toArray 64 (0, 0)) :: l19))) (perm_of fun f => by (simp only [List.map_append, List.map_cons, List.map_nil, List.sum_append, List.sum_cons, List.sum_nil] <;> omega)) (List.sublist_append_left _ _)
  · obtain rfl : k = n := by omega
    refine x_ ?_
    exact RQ.end0 rfl fun w' hm => TurnsO.of (Y := DkO l) (o := DkO.o) (L' := fun y => (rb, RdC a l.length y.k) :: y.L b4 b5) (.read ⟨x1, x2, rows, rk, hbkS rows rk hrep, ⟨x1, num8 x2.1, hwk, ts⟩, rfl, rfl, htm, hbt, sa, sc, L5, pool, hown, hat⟩) rfl hm (Lr := []) (by rw [List.append_nil]; exact List.Perm.refl _)
end Go.Proofs.YtfoeakgnkfcbjaaGreatDoor
end
section
/- block: Decode. -/
namespace Go.Proofs.YtfoeakgnkfcbjaaGreatDoor
attribute [local irreducible] Go.Vc.Run Go.Vc.RC Go.Vc.RQ Go.Vc.DR Go.Vc.DOp Go.Vc.Knows Go.Vc.At
set_option maxHeartbeats 400000
set_option maxRecDepth 10000
open Go Go.Vc Go.Sha
/-- The same block, wherever its lists lie. -/
structure Key (a b : BkV) : Prop where
  p : a.pv = b.pv
  w : a.wk = b.wk
  t : a.ts.map (·.1) = b.ts.map (·.1)
theorem Key.len {a b : BkV} (h : Key a b) : a.ts.length = b.ts.length := by have := congrArg List.length h.t; simpa using this
theorem Key.symm {a b : BkV} (h : Key a b) : Key b a := ⟨h.p.symm, h.w.symm, h.t.symm⟩
theorem Key.at {a b : BkV} (h : Key a b) {i : Nat} {q : TxP} (hq : a.ts[i]? = some q) : ∃ q', b.ts[i]? = some q' ∧ q'.1 = q.1 := by
  have h1 : (a.ts.map (·.1))[i]? = (b.ts.map (·.1))[i]? := by rw [h.t]
  rw [List.getElem?_map, List.getElem?_map, hq] at h1
  cases hb : b.ts[i]? with
  | none => rw [hb] at h1; cases h1
  | some q' => rw [hb] at h1; exact ⟨q', rfl, (Option.some.inj h1).symm⟩
theorem Key.may1 {a b : BkV} (h : Key a b) (hm : MayB a) : MayB b := ⟨by rw [← h.w]; exact hm.1, by rw [← h.len]; exact hm.2.1, fun i q hq => by
  obtain ⟨q', h1, h2⟩ := h.symm.at hq
  have := hm.2.2 i q' h1
  rw [h2] at this
  exact this⟩
theorem Key.may {a b : BkV} (h : Key a b) : MayB a ↔ MayB b := ⟨h.may1, h.symm.may1⟩
theorem Key.by {a b : BkV} (h : Key a b) : bkB a = bkB b := by
  have e : ∀ l : List TxP, txsB l = ((l.map (·.1)).map txB).flatten := fun l => by unfold txsB; rw [List.map_map]; rfl
  unfold bkB
  rw [h.p, h.w, h.len, e, e, h.t]
theorem Key.root {a b : BkV} (h : Key a b) : rootB a = rootB b := by
  have e : ∀ l : List TxP, idL l = (l.map (·.1)).map (fun t => dgH 120 t []) := fun l => by unfold idL; rw [List.map_map]; rfl
  unfold rootB
  rw [e, e, h.t]
  by_cases hm : MayB b
  · rw [if_pos hm, if_pos (h.may.2 hm)]
  · rw [if_neg hm, if_neg fun q => hm (h.may.1 q)]
theorem Key.id {a b : BkV} (h : Key a b) : idB a = idB b := by
  unfold idB
  rw [h.p, h.w, h.root]
  by_cases hm : MayB b
  · rw [if_pos hm, if_pos (h.may.2 hm)]
  · rw [if_neg hm, if_neg fun q => hm (h.may.1 q)]
theorem num8_64 (q : By 8) : num8 q.1 < 18446744073709551616 := by have := num8_lt q.1 q.2.2; rw [q.2.1] at this; exact this
noncomputable def kOf (p q : By 8) (rows : List (List Nat)) : BkV := ⟨p, num8 q.1, num8_64 q, rows.map fun x => (decT x, TxV.z)⟩
/-- What Decode hands back. -/
noncomputable def dkE (l : List Nat) : Int := match pBk l with
  | none => 2
  | some ((p, q, rows), r) => if r = [] ∧ MayB (kOf p q rows) ∧ bkB (kOf p q rows) = l then 0 else 4
noncomputable def dkB (l : List Nat) : BkV := match pBk l with
  | none => BkV.nul
  | some ((p, q, rows), r) => if r = [] ∧ MayB (kOf p q rows) ∧ bkB (kOf p q rows) = l then kOf p q rows else BkV.nul
theorem decE_nul {x : List Nat} (hl : x.length ≤ 131072) (h : decE x ≠ 0) : decT x = TxD.nul 0 := by
  unfold decE at h
  rw [if_neg (by omega)] at h
  unfold decT
  rcases hp : pTx x with _ | ⟨t, r⟩
  · rfl
  · rw [hp] at h
    dsimp only at h ⊢
    by_cases hc : r ≠ [] ∨ ¬ TxMay t
    · rw [if_pos hc]
    · rw [if_neg hc] at h
      exact absurd rfl h
theorem nul_no : ¬ TxMay (TxD.nul 0) := fun h => by
  have := h.has.1.1
  exact absurd this (by show ¬ (1 : Int) ≤ 0; decide)
/-- Where one transaction was none, the block may not be. -/
theorem bad_no {rows : List (List Nat)} {b : BkV} (hl : ∀ x ∈ rows, x.length ≤ 131072) (ht : b.ts.map (·.1) = rows.map decT) (h : badL rows = true) : ¬ MayB b := fun hm => by
  unfold badL at h
  obtain ⟨x, hx, hd⟩ := List.any_eq_true.1 h
  have h1 := decE_nul (hl x hx) (of_decide_eq_true hd)
  have h2 : decT x ∈ b.ts.map (·.1) := by rw [ht]; exact List.mem_map_of_mem hx
  obtain ⟨q, hq, e⟩ := List.mem_map.1 h2
  have h3 := may_all hm q hq
  rw [e, h1] at h3
  exact nul_no h3
theorem good_bk : Good pBk bkE (fun x => x.2.2.length < 256 ∧ ∀ y ∈ x.2.2, bytR y) := by
  have hE : ∀ y, bytR y → Bt (bytE y) := fun y hy => by
    unfold bytE
    exact fun z hz => (List.mem_append.1 hz).elim (fun h => le_lt _ _ z h) (fun h => hy.2 z h)
  have g1 := good_Byt.row hE
  have hrow : ∀ xs : List (List Nat), (xs.length < 256 ∧ ∀ y ∈ xs, bytR y) → Bt (rowB bytE xs) := fun xs hx => by
    unfold rowB
    intro z hz
    rcases List.mem_append.1 hz with hz | hz
    · exact le_lt _ _ z hz
    · obtain ⟨m, hm, hz⟩ := List.mem_flatten.1 hz
      obtain ⟨y, hy, rfl⟩ := List.mem_map.1 hm
      exact hE y (hx.2 y hy) z hz
  have g2 := (good_B 8).and g1 hrow
  have g3 := (good_B 8).and g2 (fun y hy => fun z hz => (List.mem_append.1 hz).elim (fun h => y.1.2.2 z h) (fun h => hrow y.2 hy.2 z h))
  refine ⟨fun x r hx hr => ?_, fun l x r hl h => ?_⟩
  · exact g3.a x r ⟨trivial, trivial, hx⟩ hr
  · obtain ⟨h1, h2⟩ := g3.b l x r hl h
    exact ⟨h1, h2.2.2⟩
/-- A block of one's own. -/
structure DecY (l : List Nat) where
  b : BkV
  a : Option Addr
  c : Nat
  bl : Hp
  key : Key b (dkB l)
  hat : ∀ w, Has bl w → BkAt w b a c
  ln : BkLn b
def DecY.nul {l : List Nat} (h : dkB l = BkV.nul) : DecY l := ⟨BkV.nul, none, 0, [], by rw [h]; exact ⟨rfl, rfl, rfl⟩, fun _ _ => ⟨.nil, fun q hq => by cases hq⟩, fun q hq => by cases hq⟩
theorem rows_len {l : List Nat} (hb : Bt l) (hl : l.length ≤ 131072) {p q : By 8} {rows : List (List Nat)} {r : List Nat} (h : pBk l = some ((p, q, rows), r)) : ∀ x ∈ rows, x.length ≤ 131072 := fun x hx => by
  have e := (good_bk.b l _ r hb h).1
  have h1 : x.length ≤ (rowB bytE rows).length := by
    unfold rowB
    rw [List.length_append]
    have h2 : ∀ L : List (List Nat), x ∈ L → x.length ≤ ((L.map bytE).flatten).length := fun L => by
      induction L with
      | nil => intro h; cases h
      | cons y L ih =>
        intro h
        rw [List.map_cons, List.flatten_cons, List.length_append]
        rcases List.mem_cons.1 h with rfl | h
        · unfold bytE; rw [List.length_append]; omega
        · have := ih h; omega
    have := h2 rows hx
    omega
  have h3 := congrArg List.length e
  unfold bkE at h3
  simp only [List.length_append] at h3
  omega
set_option maxRecDepth 10000 in set_option maxHeartbeats 4000000 in
theorem DecBk_calls (l : List Nat) (hl : l.length ≤ 131072) (hb : Bt l) (v : Value) (w : World) (hs : SrcW w 1 v l.length (u8s l)) :
    Turns Tryz.prog 17 [v] w [] (Y := DecY l) (fun y => .tuple #[.agg (bkC y.b y.a y.c).toArray, .int .i64 (dkE l)]) (fun y => y.bl) := by
  refine enter Tryz.func17 rfl (Mem.nil w []) rfl ?_
  obtain ⟨a, c, rfl, hc⟩ := hs.shape
  have hsl : SrcW w 1 (.slice a l.length l.length) l.length (u8s l) := hs.cap
  have hI0 : ∀ w', Fr [] w w' → ∀ X : List Nat, (∀ b ∈ X, w.heap.size ≤ b) → InB w' X a l := fun w' hf X hX => ⟨hl, hb, hsl.fr hf, fun h0 ad he hin => by
    obtain ⟨ad', c', hv, _, hcl, hr⟩ := hsl.pos h0
    subst he
    cases hv
    have h1 := World.block_lt_of_cell? w _ (hr 0 _ (List.getElem?_eq_getElem (by rw [hcl]; omega)))
    rw [add_block] at h1
    have := hX _ hin
    omega⟩
  have hl0 : RdS a l l = RdC a l.length 0 := by unfold RdS; rw [Nat.sub_self]
  have hN10 : ∀ b a c, (bkC b a c).toArray.size = ti27.size := fun b a c => by rw [List.size_toArray, bkC_len]; rfl
  have hnul : ∀ e : Int, dkB l = BkV.nul → dkE l = e → ∀ w' L1, Mem w [] L1 w' → ∃ y' : DecY l, Ending.returned (.tuple #[.agg (bkC BkV.nul none 0).toArray, .int .i64 e]) = Ending.returned (.tuple #[.agg (bkC y'.b y'.a y'.c).toArray, .int .i64 (dkE l)]) ∧ Fr (([] : Hp).map (·.1)) w w' ∧ Has y'.bl w' ∧ (∀ p ∈ y'.bl, w.heap.size ≤ p.1 ∨ p.1 ∈ ([] : Hp).map (·.1)) ∧ (y'.bl.map (·.1)).Nodup := fun e h1 h2 w' L1 hm => by
    rw [h2]
    exact Turns.of (Y := DecY l) (V := fun y => .tuple #[.agg (bkC y.b y.a y.c).toArray, .int .i64 e]) (L' := fun y => y.bl) (Lst := []) (DecY.nul h1) hm (Lr := L1) (List.Perm.refl _)
  refine z_ ?_
  refine Run.nw nal ?_
  intro b2
  refine x_ ?_
  refine Run.nw nal ?_
  intro b4
  refine x_ ?_
  refine Run.nw nal ?_
  intro b5
  refine x_ ?_
  refine Run.op1 (ostE (arr := ti4.zero.cells) (e := 4) (L' := [(b4, Obj.cells ti27.zero.cells 27 (0, 0)), (b2, Obj.cells ti27.zero.cells 27 (0, 0))]) #[.bool false] (hL := (perm_of fun f => by (simp only [List.map_append, List.map_cons, List.map_nil, List.sum_append, List.sum_cons, List.sum_nil] <;> omega))) (he := by rfl) (hf := by decide) (h1 := by exact one_bB _)) (fun _ => ?_)
  refine x_ ?_
  refine Run.a (Val.mkFn (fs := []) (cs := [.tmp 4, .tmp 5])) ?_
  refine runPerm (L' := [(b4, Obj.cells (bkC BkV.nul none 0).toArray 27 (0, 0)), (b5, Obj.cells #[.bool false] 4 (0, 0)), (b2, Obj.cells (bkC BkV.nul none 0).toArray 27 (0, 0))]) (by rw [← bk_zero]; exact (perm_of fun f => by (simp only [List.map_append, List.map_cons, List.map_nil, List.sum_append, List.sum_cons, List.sum_nil] <;> omega))) ?_
  have hpR : ([(b4, Obj.cells (bkC BkV.nul none 0).toArray 27 (0, 0)), (b5, Obj.cells #[.bool false] 4 (0, 0)), (b2, Obj.cells (bkC BkV.nul none 0).toArray 27 (0, 0))] : Hp).Perm ([(b4, Obj.cells (bkC BkV.nul none 0).toArray 27 (0, 0)), (b5, Obj.cells #[.bool false] 4 (0, 0))] ++ [(b2, Obj.cells (bkC BkV.nul none 0).toArray 27 (0, 0))]) := List.Perm.refl _
  have hRd : ∀ w', Mem w [] [(b4, Obj.cells (bkC BkV.nul none 0).toArray 27 (0, 0)), (b5, Obj.cells #[.bool false] 4 (0, 0)), (b2, Obj.cells (bkC BkV.nul none 0).toArray 27 (0, 0))] w' → Turns Tryz.prog 40 [.slice a l.length c, .func (.func 41) #[] #[.pointer (some ⟨b4, 0, none⟩), .pointer (some ⟨b5, 0, none⟩)]] w' [(b4, Obj.cells (bkC BkV.nul none 0).toArray 27 (0, 0)), (b5, Obj.cells #[.bool false] 4 (0, 0))] (Y := DkO l) (fun y => .int .i64 (readE y.o l.length y.k)) (fun y => y.L b4 b5) := fun w' hm =>
    DReadF_calls a l.length c hl hc Tryz.func41 rfl rfl [.pointer (some ⟨b4, 0, none⟩), .pointer (some ⟨b5, 0, none⟩)] w' [(b4, Obj.cells (bkC BkV.nul none 0).toArray 27 (0, 0)), (b5, Obj.cells #[.bool false] 4 (0, 0))] (hasFs hpR hm).1 (hasFs hpR hm).2 (Y := DkO l) (o := DkO.o) (k := DkO.k) (L' := fun y => y.L b4 b5) (fun y => by cases y with
      | short k hk h => exact hk
      | read d => exact Nat.sub_le _ _) (fun y pv h => by cases y with
      | short k hk hn => cases h; rfl
      | read d => cases h) (fun rb w'' hf hrb hA hN => by
      rw [← hl0] at hA hN ⊢
      refine dk1_calls l a rb b4 b5 w'' (hI0 w'' (hm.fr.trans hf) _ (fun b hb => ?_)) hA hN
      have h5 := hm.fr.size
      have h4 := hm.own (b4, Obj.cells (bkC BkV.nul none 0).toArray 27 (0, 0)) List.mem_cons_self
      have h6 := hm.own (b5, Obj.cells #[.bool false] 4 (0, 0)) (List.mem_cons_of_mem _ List.mem_cons_self)
      rcases List.mem_cons.1 hb with rfl | hb
      · exact Nat.le_trans h5 hrb
      rcases List.mem_cons.1 hb with rfl | hb
      · exact h4.resolve_right (by simp)
      · rw [List.mem_singleton.1 hb]; exact h6.resolve_right (by simp))
  refine Run.op1 (OpTo.callT Tryz.func40 hpR hRd) ?_
  intro y
  cases y with
  | short k hk hn =>
    have hT : dkB l = BkV.nul := by unfold dkB; rw [hn]
    have hE : dkE l = 2 := by unfold dkE; rw [hn]
    dsimp only [DkO.o, DkO.k, DkO.L, readE]
    rw [if_pos rfl]
    refine x_ ?_
    refine Run.op1 (osa (arr := (bkC BkV.nul none 0).toArray) (e := 27) (L' := []) (bkC BkV.nul none 0).toArray (bkC_one _ _ _) (hL := (perm_of fun f => by (simp only [List.map_append, List.map_cons, List.map_nil, List.sum_append, List.sum_cons, List.sum_nil] <;> omega))) (hs := by exact hN10 _ _ _) (hf := by exact (hN10 _ _ _).symm)) (fun _ => ?_)
    refine x_ ?_
    exact RQ.ret2 rfl (Res.cellAll tabOk rfl rfl rfl m0 (hN10 _ _ _)) (Res.tmp rfl) fun w' hm => hnul 2 hT hE w' _ hm
  | read d =>
    dsimp only [DkO.o, DkO.k, DkO.L, readE, List.cons_append]
    have hdh := d.h
    by_cases hr0 : d.r = []
    rotate_left
    · have hT : dkB l = BkV.nul := by unfold dkB; rw [hdh]; exact if_neg fun h => hr0 h.1
      have hE : dkE l = 4 := by unfold dkE; rw [hdh]; exact if_neg fun h => hr0 h.1
      have hr1 : 0 < d.r.length := List.length_pos_iff.2 hr0
      have hrl : d.r.length ≤ l.length := by
        have := congrArg List.length (good_bk.b l _ d.r hb hdh).1
        rw [List.length_append] at this
        omega
      rw [if_pos (by omega)]
      refine x_ ?_
      refine Run.op1 (osa (arr := (bkC BkV.nul none 0).toArray) (e := 27) (L' := (b4, Obj.cells (bkC d.b d.a d.c).toArray 27 (0, 0)) :: ((b5, Obj.cells #[.bool (badL d.rows)] 4 (0, 0)) :: (d.L5 ++ d.pool))) (bkC BkV.nul none 0).toArray (bkC_one _ _ _) (hL := (perm_of fun f => by (simp only [List.map_append, List.map_cons, List.map_nil, List.sum_append, List.sum_cons, List.sum_nil] <;> omega))) (hs := by exact hN10 _ _ _) (hf := by exact (hN10 _ _ _).symm)) (fun _ => ?_)
      refine x_ ?_
      exact RQ.ret2 rfl (Res.cellAll tabOk rfl rfl rfl m0 (hN10 _ _ _)) (Res.tmp rfl) fun w' hm => hnul 4 hT hE w' _ hm
    rw [if_neg (by rw [hr0, List.length_nil]; omega)]
    have hkey : Key d.b (kOf d.p d.q d.rows) := ⟨d.hp, d.hq, by rw [d.ht]; unfold kOf; rw [List.map_map]; rfl⟩
    have hat : ∀ w', Has d.L5 w' → Has d.pool w' → BkAt w' d.b d.a d.c := fun w' h1 h2 => ⟨d.own.srcW h1, d.hat w' h2⟩
    have hbln : BkLn d.b := fun z hz => by
      have h1 : z.1 ∈ d.b.ts.map (·.1) := List.mem_map_of_mem hz
      rw [d.ht] at h1
      obtain ⟨x, hx, e⟩ := List.mem_map.1 h1
      rw [← e]
      exact decT_ln (d.hbt x hx)
    have hF10 : (bkC d.b d.a d.c).toArray.size = 10 := by rw [List.size_toArray, bkC_len]
    refine x_ ?_
    have hz7 : ((b4, Obj.cells (bkC d.b d.a d.c).toArray 27 (0, 0)) :: ((b5, Obj.cells #[.bool (badL d.rows)] 4 (0, 0)) :: ((d.L5 ++ d.pool) ++ [(b2, Obj.cells (bkC BkV.nul none 0).toArray 27 (0, 0))])) : Hp).Perm ([] ++ ((b4, Obj.cells (bkC d.b d.a d.c).toArray 27 (0, 0)) :: ((b5, Obj.cells #[.bool (badL d.rows)] 4 (0, 0)) :: ((d.L5 ++ d.pool) ++ [(b2, Obj.cells (bkC BkV.nul none 0).toArray 27 (0, 0))])))) := List.Perm.refl _
    refine Run.op1 (OpTo.callT Tryz.func38 hz7 (fun w' hm => written_calls d.b hbln d.a d.c w' (hat w' (fun p hp => hm.has p (List.mem_cons_of_mem _ (List.mem_cons_of_mem _ (List.mem_append_left _ (List.mem_append_left _ hp))))) (fun p hp => hm.has p (List.mem_cons_of_mem _ (List.mem_cons_of_mem _ (List.mem_append_left _ (List.mem_append_right _ hp)))))))) ?_
    rintro ⟨⟨v17, l17⟩, h17⟩
    dsimp only at h17 ⊢
    have hno : ¬ (MayB d.b ∧ bkB d.b = l) → dkB l = BkV.nul ∧ dkE l = 4 := fun hn => by
      have hn' : ¬ (d.r = [] ∧ MayB (kOf d.p d.q d.rows) ∧ bkB (kOf d.p d.q d.rows) = l) := fun h => hn ⟨hkey.may.2 h.2.1, by rw [hkey.by]; exact h.2.2⟩
      constructor
      · unfold dkB; rw [hdh]; exact if_neg hn'
      · unfold dkE; rw [hdh]; exact if_neg hn'
    by_cases hM : MayB d.b
    rotate_left
    · obtain ⟨hT, hE⟩ := hno (fun h => hM h.1)
      rw [decide_eq_false hM]
      cases hbd : badL d.rows
      · refine x_ ?_
        refine Run.op1 (osa (arr := (bkC BkV.nul none 0).toArray) (e := 27) (L' := l17 ++ ((b4, Obj.cells (bkC d.b d.a d.c).toArray 27 (0, 0)) :: ((b5, Obj.cells #[.bool false] 4 (0, 0)) :: (d.L5 ++ d.pool)))) (bkC BkV.nul none 0).toArray (bkC_one _ _ _) (hL := (perm_of fun f => by (simp only [List.map_append, List.map_cons, List.map_nil, List.sum_append, List.sum_cons, List.sum_nil] <;> omega))) (hs := by exact hN10 _ _ _) (hf := by exact (hN10 _ _ _).symm)) (fun _ => ?_)
        refine x_ ?_
        exact RQ.ret2 rfl (Res.cellAll tabOk rfl rfl rfl m0 (hN10 _ _ _)) (Res.tmp rfl) fun w' hm => hnul 4 hT hE w' _ hm
      · refine x_ ?_
        refine Run.op1 (osa (arr := (bkC BkV.nul none 0).toArray) (e := 27) (L' := l17 ++ ((b4, Obj.cells (bkC d.b d.a d.c).toArray 27 (0, 0)) :: ((b5, Obj.cells #[.bool true] 4 (0, 0)) :: (d.L5 ++ d.pool)))) (bkC BkV.nul none 0).toArray (bkC_one _ _ _) (hL := (perm_of fun f => by (simp only [List.map_append, List.map_cons, List.map_nil, List.sum_append, List.sum_cons, List.sum_nil] <;> omega))) (hs := by exact hN10 _ _ _) (hf := by exact (hN10 _ _ _).symm)) (fun _ => ?_)
        refine x_ ?_
        exact RQ.ret2 rfl (Res.cellAll tabOk rfl rfl rfl m0 (hN10 _ _ _)) (Res.tmp rfl) fun w' hm => hnul 4 hT hE w' _ hm
    have hbd : badL d.rows = false := by
      cases hq : badL d.rows
      · rfl
      · exact absurd hM (bad_no (rows_len hb hl hdh) d.ht hq)
    rw [hbd, decide_eq_true hM]
    rw [show wrB d.b = bkB d.b from if_pos hM] at h17
    refine x_ ?_
    refine Run.opG (Wanted.guard rfl rfl rfl rfl) (OpTo.cv Tryz.func39 (fun w' hm => Equal_calls (bkB d.b) l (bt_bk hM) hb v17 (.slice a l.length c) w' (h17.srcW (fun q hq => hm.has q (List.mem_append_left _ hq))) (hs.fr hm.fr))) (fun _ => ?_)
    by_cases he : bkB d.b = l
    rotate_left
    · obtain ⟨hT, hE⟩ := hno (fun h => he h.2)
      rw [decide_eq_false he]
      refine x_ ?_
      refine Run.op1 (osa (arr := (bkC BkV.nul none 0).toArray) (e := 27) (L' := l17 ++ ((b4, Obj.cells (bkC d.b d.a d.c).toArray 27 (0, 0)) :: ((b5, Obj.cells #[.bool false] 4 (0, 0)) :: (d.L5 ++ d.pool)))) (bkC BkV.nul none 0).toArray (bkC_one _ _ _) (hL := (perm_of fun f => by (simp only [List.map_append, List.map_cons, List.map_nil, List.sum_append, List.sum_cons, List.sum_nil] <;> omega))) (hs := by exact hN10 _ _ _) (hf := by exact (hN10 _ _ _).symm)) (fun _ => ?_)
      refine x_ ?_
      exact RQ.ret2 rfl (Res.cellAll tabOk rfl rfl rfl m0 (hN10 _ _ _)) (Res.tmp rfl) fun w' hm => hnul 4 hT hE w' _ hm
    have hyes : d.r = [] ∧ MayB (kOf d.p d.q d.rows) ∧ bkB (kOf d.p d.q d.rows) = l := ⟨hr0, hkey.may.1 hM, by rw [← hkey.by]; exact he⟩
    have hT : dkB l = kOf d.p d.q d.rows := by unfold dkB; rw [hdh]; exact if_pos hyes
    have hE : dkE l = 0 := by unfold dkE; rw [hdh]; exact if_pos hyes
    rw [decide_eq_true he]
    refine x_ ?_
    refine Run.op1 (osa (arr := (bkC BkV.nul none 0).toArray) (e := 27) (L' := l17 ++ ((b4, Obj.cells (bkC d.b d.a d.c).toArray 27 (0, 0)) :: ((b5, Obj.cells #[.bool false] 4 (0, 0)) :: (d.L5 ++ d.pool)))) (bkC d.b d.a d.c).toArray (bkC_one _ _ _) (hL := (perm_of fun f => by (simp only [List.map_append, List.map_cons, List.map_nil, List.sum_append, List.sum_cons, List.sum_nil] <;> omega))) (hs := by exact hN10 _ _ _) (hf := by exact (hN10 _ _ _).symm)) (fun _ => ?_)
    refine x_ ?_
    rw [hE]
    exact RQ.ret2 rfl (Res.cellAll tabOk rfl rfl rfl m0 (hN10 _ _ _)) (Res.tmp rfl) fun w' hm => Turns.of (Y := DecY l) (V := fun y => .tuple #[.agg (bkC y.b y.a y.c).toArray, .int .i64 0]) (L' := fun y => y.bl) (Lst := []) ⟨d.b, d.a, d.c, d.L5 ++ d.pool, by rw [hT]; exact hkey, fun w hw => hat w hw.left hw.right, hbln⟩ hm (Lr := (b2, Obj.cells (bkC d.b d.a d.c).toArray 27 (0, 0)) :: (l17 ++ [(b4, Obj.cells (bkC d.b d.a d.c).toArray 27 (0, 0)), (b5, Obj.cells #[.bool false] 4 (0, 0))])) (by dsimp only; exact (perm_of fun f => by (simp only [List.map_append, List.map_cons, List.map_nil, List.sum_append, List.sum_cons, List.sum_nil] <;> omega)))
end Go.Proofs.YtfoeakgnkfcbjaaGreatDoor
end
section
/- tx: awake, Few (gen_ty5.py prints it). -/
namespace Go.Proofs.YtfoeakgnkfcbjaaGreatDoor
attribute [local irreducible] Go.Vc.Run Go.Vc.RC Go.Vc.RQ Go.Vc.DR Go.Vc.DOp Go.Vc.Knows Go.Vc.At
set_option maxHeartbeats 400000
set_option maxRecDepth 10000
open Go Go.Vc Go.Sha
theorem dec_T {t : TxD} (h : TxMay t) : decT t.b = t := by
  unfold decT
  rw [(dec_back h).1]
  exact if_neg (by rintro (h' | h'); exact h' rfl; exact h' h)
def coin1 : TxD := tCoin 1 []
theorem may_coin1 : TxMay coin1 := .coin 1 [] (by decide) ⟨fun o ho => absurd ho (by simp), by decide⟩
theorem coin1_b : coin1.b = [1, 1, 0, 0, 0, 0] := rfl
theorem at_nul {w : World} : TxAt w coin1 TxV.z := ⟨.nil, .nil, .nil, .nil, .nil, .nil⟩
theorem ln_coin1 : TxLn coin1 := by unfold TxLn; decide
/-- Its lists are short. -/
def FewP (t : TxD) : Prop := t.is.length ≤ 20 ∧ t.os.length ≤ 40 ∧ t.fs.length ≤ 40 ∧ t.p.ks.length ≤ 20 ∧ t.c.os.length ≤ 40 ∧ t.c.sg.length ≤ 20
instance (t : TxD) : Decidable (FewP t) := by unfold FewP; infer_instance
end Go.Proofs.YtfoeakgnkfcbjaaGreatDoor

/- tx: the laws: TxWrites, TxCuts. -/
namespace Go.Proofs.YtfoeakgnkfcbjaaGreatDoor
attribute [local irreducible] Go.Vc.Run Go.Vc.RC Go.Vc.RQ Go.Vc.DR Go.Vc.DOp Go.Vc.Knows Go.Vc.At
set_option maxHeartbeats 400000
set_option maxRecDepth 10000
open Go Go.Vc Go.Sha
end Go.Proofs.YtfoeakgnkfcbjaaGreatDoor
end
section
/- block: the plain law of Decode; Few; awake. -/
namespace Go.Proofs.YtfoeakgnkfcbjaaGreatDoor
attribute [local irreducible] Go.Vc.Run Go.Vc.RC Go.Vc.RQ Go.Vc.DR Go.Vc.DOp Go.Vc.Knows Go.Vc.At
set_option maxHeartbeats 400000
set_option maxRecDepth 10000
open Go Go.Vc Go.Sha
theorem wk_bits {b : BkV} (h : MayB b) : bitsF b.wk = le b.wk 8 ∧ num8 (bitsF b.wk) = b.wk := by
  have hn : nanB b.wk = false := by
    have h1 : kindF (trP b.wk) b.wk = 5 := beq_iff_eq.1 h.1
    have := wk_ord h1
    unfold nanB
    rw [this]
    rfl
  have e : bitsF b.wk = le b.wk 8 := by unfold bitsF; rw [hn, if_neg (by decide)]
  exact ⟨e, by rw [e]; exact num8_leT 8 _ b.hw⟩
/-- What a block's bytes read as. -/
def bkX (b : BkV) : By 8 × By 8 × List (List Nat) := (b.pv, ⟨bitsF b.wk, bits_len _, bits_lt _⟩, b.ts.map fun q => q.1.b)
theorem bkX_E (b : BkV) : bkE (bkX b) = bkB b := by
  unfold bkE bkX bkB rowB txsB
  dsimp only
  rw [List.length_map, List.map_map]
  rfl
theorem bkX_R {b : BkV} (h : MayB b) : (bkX b).2.2.length < 256 ∧ ∀ y ∈ (bkX b).2.2, bytR y := by
  refine ⟨by show (b.ts.map _).length < 256; rw [List.length_map]; have := h.2.1; omega, fun y hy => ?_⟩
  obtain ⟨q, hq, rfl⟩ := List.mem_map.1 hy
  have hm := may_all h q hq
  have := hm.bl
  exact ⟨by omega, bt_tx hm⟩
theorem key_X {b : BkV} (h : MayB b) : Key (kOf (bkX b).1 (bkX b).2.1 (bkX b).2.2) b := by
  refine ⟨rfl, (wk_bits h).2, ?_⟩
  show ((b.ts.map fun q => q.1.b).map fun x => (decT x, TxV.z)).map (·.1) = b.ts.map (·.1)
  rw [List.map_map, List.map_map]
  apply List.map_congr_left
  intro q hq
  exact dec_T (may_all h q hq)
theorem dk_back {b : BkV} (h : MayB b) : dkE (bkB b) = 0 ∧ Key (dkB (bkB b)) b := by
  have h1 := good_bk.a (bkX b) [] (bkX_R h) (fun x hx => by cases hx)
  rw [List.append_nil, bkX_E] at h1
  have hk := key_X h
  have hc : ([] : List Nat) = [] ∧ MayB (kOf (bkX b).1 (bkX b).2.1 (bkX b).2.2) ∧ bkB (kOf (bkX b).1 (bkX b).2.1 (bkX b).2.2) = bkB b := ⟨rfl, hk.may.2 h, hk.by⟩
  constructor
  · unfold dkE
    rw [h1]
    exact if_pos hc
  · unfold dkB
    rw [h1]
    dsimp only
    rw [if_pos hc]
    exact hk
def FewK (b : BkV) : Prop := b.ts.length ≤ 40 ∧ ∀ q ∈ b.ts, FewP q.1
noncomputable instance (b : BkV) : Decidable (FewK b) := Classical.propDecidable _
end Go.Proofs.YtfoeakgnkfcbjaaGreatDoor
end
