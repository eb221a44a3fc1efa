/- Lemmas. -/
import Derived.ChangeStays
import Derived.ChangeOld
import Derived.ChangeSame
import Derived.RowKit
import Derived.OpenShut
import Derived.ProofKit
import Derived.Deep.DeepHandedRow
import GoSem.ClaimSeven
import Derived.Deep.Slices
import Derived.Test.YtfoeakgnkfcbjaaGreatDoorCards
import Derived.Test.YtfoeakgnkfcbjaaGreatDoorTie
import Derived.WalkKit
import Derived.Lib.LaidTab
import Derived.Test.YtfoeakgnkfcbjaaGreatDoorPk26
set_option linter.unusedSimpArgs false
set_option linter.unusedVariables false
section
/- block: the plain law of Decode; Few; awake. -/
namespace Go.Proofs.YtfoeakgnkfcbjaaGreatDoor
attribute [local irreducible] Go.Vc.Run Go.Vc.RC Go.Vc.RQ Go.Vc.DR Go.Vc.DOp Go.Vc.Knows Go.Vc.At
set_option maxHeartbeats 400000
set_option maxRecDepth 10000
open Go Go.Vc Go.Sha
theorem wk_bits {b : BkV} (h : MayB b) : bitsF b.wk = le b.wk 8 ∧ num8 (bitsF b.wk) = b.wk := by
  have hn : nanB b.wk = false := by
    have h1 : kindF (trP b.wk) b.wk = 5 := beq_iff_eq.1 h.1
    have := wk_ord h1
    unfold nanB
    rw [this]
    rfl
  have e : bitsF b.wk = le b.wk 8 := by unfold bitsF; rw [hn, if_neg (by decide)]
  exact ⟨e, by rw [e]; exact num8_leT 8 _ b.hw⟩
/-- What a block's bytes read as. -/
def bkX (b : BkV) : By 8 × By 8 × List (List Nat) := (b.pv, ⟨bitsF b.wk, bits_len _, bits_lt _⟩, b.ts.map fun q => q.1.b)
theorem bkX_E (b : BkV) : bkE (bkX b) = bkB b := by
  unfold bkE bkX bkB rowB txsB
  dsimp only
  rw [List.length_map, List.map_map]
  rfl
theorem bkX_R {b : BkV} (h : MayB b) : (bkX b).2.2.length < 256 ∧ ∀ y ∈ (bkX b).2.2, bytR y := by
  refine ⟨by show (b.ts.map _).length < 256; rw [List.length_map]; have := h.2.1; omega, fun y hy => ?_⟩
  obtain ⟨q, hq, rfl⟩ := List.mem_map.1 hy
  have hm := may_all h q hq
  have := hm.bl
  exact ⟨by omega, bt_tx hm⟩
theorem key_X {b : BkV} (h : MayB b) : Key (kOf (bkX b).1 (bkX b).2.1 (bkX b).2.2) b := by
  refine ⟨rfl, (wk_bits h).2, ?_⟩
  show ((b.ts.map fun q => q.1.b).map fun x => (decT x, TxV.z)).map (·.1) = b.ts.map (·.1)
  rw [List.map_map, List.map_map]
  apply List.map_congr_left
  intro q hq
  exact dec_T (may_all h q hq)
theorem dk_back {b : BkV} (h : MayB b) : dkE (bkB b) = 0 ∧ Key (dkB (bkB b)) b := by
  have h1 := good_bk.a (bkX b) [] (bkX_R h) (fun x hx => by cases hx)
  rw [List.append_nil, bkX_E] at h1
  have hk := key_X h
  have hc : ([] : List Nat) = [] ∧ MayB (kOf (bkX b).1 (bkX b).2.1 (bkX b).2.2) ∧ bkB (kOf (bkX b).1 (bkX b).2.1 (bkX b).2.2) = bkB b := ⟨rfl, hk.may.2 h, hk.by⟩
  constructor
  · unfold dkE
    rw [h1]
    exact if_pos hc
  · unfold dkB
    rw [h1]
    dsimp only
    rw [if_pos hc]
    exact hk
theorem dk_cut {b : BkV} (h : MayB b) {k : Nat} (hk : k < (bkB b).length) : dkE ((bkB b).take k) = 2 := by
  have h1 := good_bk.cut (bkX_R h) (by rw [bkX_E]; exact bt_bk h) (k := k) (by rw [bkX_E]; exact hk)
  rw [bkX_E] at h1
  unfold dkE
  rw [h1]
theorem dk_more {b : BkV} (h : MayB b) (x : Nat) (hx : x < 256) : dkE (bkB b ++ [x]) = 4 := by
  have h1 := good_bk.a (bkX b) [x] (bkX_R h) (fun y hy => by rw [List.mem_singleton.1 hy]; exact hx)
  rw [bkX_E] at h1
  unfold dkE
  rw [h1]
  exact if_neg fun q => by cases q.1
def FewK (b : BkV) : Prop := b.ts.length ≤ 40 ∧ ∀ q ∈ b.ts, FewP q.1
noncomputable instance (b : BkV) : Decidable (FewK b) := Classical.propDecidable _
theorem FewK.ln {b : BkV} (h : FewK b) : BkLn b := fun q hq => (h.2 q hq).ln
set_option maxRecDepth 10000 in set_option maxHeartbeats 4000000 in
theorem FewBk_calls (b : BkV) (a : Option Addr) (c : Nat) (w : World) (hat : BkAt w b a c) : Gives Tryz.prog 10 [.agg (bkC b a c).toArray] (.bool (decide (FewK b))) w := by
  refine enter Tryz.func10 rfl (Mem.nil w []) rfl ?_
  have r9 := bk_r9 b a c
  have hF10 : (bkC b a c).toArray.size = 10 := by rw [List.size_toArray, bkC_len]
  generalize bkC b a c = F at r9 hF10 ⊢
  have hno : ∀ (w' : World), Fr [] w w' → ¬ FewK b → Ending.returned (.bool false) = Ending.returned (.bool (decide (FewK b))) ∧ Fr [] w w' := fun w' hf h => ⟨by rw [decide_eq_false h], hf⟩
  refine z_ ?_
  refine Run.nw nbx ?_
  intro b1
  have hmem := hat.s
  obtain ⟨N, hN⟩ : ∃ N, N = b.ts.length := ⟨_, rfl⟩
  rw [← hN] at r9 hmem
  by_cases h40 : 40 < N
  · have hn : ¬ FewK b := fun h => by have := h.1; omega
    refine x_ ?_
    exact RQ.ret1 rfl (Res.tmp rfl) fun w' hm => hno w' hm.fr hn
  refine x_ ?_
  refine RC.up N (D := Unit) (fun k _ => ∀ q ∈ b.ts.take k, FewP q.1) (fun k _ => [(3, .int .i64 k), (1, .pointer (some ⟨b1, 0, none⟩))]) (fun _ _ => [(b1, Obj.cells F.toArray 27 (0, 0))]) 0 () (Nat.zero_le _) (fun q hq => by cases hq) ⟨rfl, rfl, trivial⟩ (List.Sublist.refl _) ?_
  intro k _ hk hok
  by_cases hk' : k < N
  · obtain ⟨q, hx⟩ : ∃ q, b.ts[k]? = some q := ⟨_, List.getElem?_eq_getElem (by omega)⟩
    obtain ⟨ad, c', hv', hc', hcl, hr⟩ := hmem.pos (by omega)
    cases hv'
    have q0 : At w (ad.add (k * 170)) (txC q.1 q.2) := At.mk fun j u hj => by rw [add_add]; exact hr _ u (rws_at txR_len hx j u hj)
    have hT170 : (txC q.1 q.2).length = 170 := txC_len _ _
    have kF : Knows Tryz.prog w 30 [.agg (txC q.1 q.2).toArray] (.bool (decide (FewP q.1))) := Knows.mk Tryz.func30 (fun w' hf => TFew_calls q.1 q.2 w')
    generalize txC q.1 q.2 = T at q0 hT170 kF
    by_cases hfp : FewP q.1
    · rw [decide_eq_true hfp] at kF
      refine x_ ?_
      exact RQ.up (k + 1) () (Nat.lt_succ_self _) hk' (fun p hp => by
        rw [List.take_add_one, hx] at hp
        rcases List.mem_append.1 hp with h | h
        · exact hok p h
        · rw [List.mem_singleton.1 h]; exact hfp) ⟨rfl, rfl, trivial⟩ (List.Sublist.refl _)
    · have hn : ¬ FewK b := fun h => hfp (h.2 q (List.mem_of_getElem? hx))
      rw [decide_eq_false hfp] at kF
      refine x_ ?_
      exact RQ.ret1 rfl (Res.tmp rfl) fun w' hm => hno w' hm.fr hn
  obtain rfl : k = N := by omega
  rw [List.take_of_length_le (by omega)] at hok
  have hyes : FewK b := ⟨by omega, hok⟩
  rw [decide_eq_true hyes]
  refine x_ ?_
  exact RQ.ret1 rfl (Res.tmp rfl) fun w' hm => ⟨rfl, hm.fr⟩
end Go.Proofs.YtfoeakgnkfcbjaaGreatDoor
end
section
/- block: awake. -/
namespace Go.Proofs.YtfoeakgnkfcbjaaGreatDoor
attribute [local irreducible] Go.Vc.Run Go.Vc.RC Go.Vc.RQ Go.Vc.DR Go.Vc.DOp Go.Vc.Knows Go.Vc.At
set_option maxHeartbeats 400000
set_option maxRecDepth 10000
open Go Go.Vc Go.Sha
theorem Key.trans {a b c : BkV} (h : Key a b) (k : Key b c) : Key a c := ⟨h.p.trans k.p, h.w.trans k.w, h.t.trans k.t⟩
def blk0 : BkV := ⟨⟨[1, 0, 0, 0, 0, 0, 0, 0], rfl, by decide⟩, 4613937818241073152, by decide, [(coin1, TxV.z)]⟩
theorem may_blk0 : MayB blk0 := ⟨by decide +kernel, ⟨by decide, by decide⟩, fun i q h => by
  cases i with
  | zero =>
    have : q = (coin1, TxV.z) := (Option.some.inj h).symm
    subst this
    exact ⟨may_coin1, ⟨fun _ => rfl, fun _ => rfl⟩⟩
  | succ i => cases h⟩
theorem ln_blk0 : BkLn blk0 := fun q hq => by
  rw [List.mem_singleton.1 hq]
  exact ln_coin1
theorem id_blk0 : idB blk0 ≠ List.replicate 8 0 := by
  unfold idB rootB
  rw [if_pos may_blk0, if_pos may_blk0]
  have e : idL blk0.ts = [digest 120 [[1, 1, 0, 0, 0, 0]]] := by
    show [dgH 120 coin1 []] = _
    rw [show dgH 120 coin1 [] = digest 120 [coin1.b] from if_pos may_coin1, coin1_b]
  rw [e, (wk_bits may_blk0).1]
  show digest 98 [[1, 0, 0, 0, 0, 0, 0, 0], le 4613937818241073152 8, rootOf [digest 120 [[1, 1, 0, 0, 0, 0]]]] ≠ _
  decide +kernel
set_option maxRecDepth 10000 in set_option maxHeartbeats 4000000 in
theorem awake17_calls (w : World) (hK : Laid w) : Gives Tryz.prog 9 [] (.bool true) w := by
  refine enter Tryz.func9 rfl (Mem.nil w []) rfl ?_
  have hT170 : (txC coin1 TxV.z).toArray.size = 170 := by rw [List.size_toArray, txC_len]
  refine x_ ?_
  refine Run.a (vba (u8s [1, 0, 0, 0, 0, 0, 0, 0]).toArray) ?_
  refine Run.a (vbs (txC coin1 TxV.z).toArray) ?_
  refine Run.nw (nbsl (parts := [(0, .tmp 9)]) (txC coin1 TxV.z).toArray (fillS_1 170 _ (txC coin1 TxV.z) (txC_len _ _))) ?_
  intro b10
  refine Run.a (vbs (bkC blk0 (some ⟨b10, 0, none⟩) 1).toArray) ?_
  refine x_ ?_
  refine Run.nw nal ?_
  intro b1
  have hF1 := bkC_one blk0 (some ⟨b10, 0, none⟩) 1
  have hF10 : (bkC blk0 (some ⟨b10, 0, none⟩) 1).toArray.size = 10 := by rw [List.size_toArray, bkC_len]
  refine x_ ?_
  refine Run.op1 (osa (arr := ti27.zero.cells) (bkC blk0 (some ⟨b10, 0, none⟩) 1).toArray hF1 (hs := by exact hF10)) (fun _ => ?_)
  refine x_ ?_
  have hA : ∀ {w' : World} {L0 : Hp}, Mem w [] L0 w' → (b10, Obj.cells (txC coin1 TxV.z).toArray 64 (0, 0)) ∈ L0 → BkAt w' blk0 (some ⟨b10, 0, none⟩) 1 := fun hm hin => ⟨by
    show SrcW _ 170 (.slice (some ⟨b10, 0, none⟩) 1 1) 1 (rws txR [(coin1, TxV.z)])
    rw [rws_one]
    exact SrcW.row hm (e := 64) (fz := (0, 0)) (cs := txC coin1 TxV.z) hin (by rw [txC_len]) (Nat.le_refl 1), fun q hq => by
    rw [List.mem_singleton.1 hq]
    exact at_nul⟩
  have hBl := bkB_len may_blk0
  obtain ⟨F, hF⟩ : ∃ F, F = bkC blk0 (some ⟨b10, 0, none⟩) 1 := ⟨_, rfl⟩
  obtain ⟨G, hG⟩ : ∃ G, G = txC coin1 TxV.z := ⟨_, rfl⟩
  have hEn := fun w' h => EncBk_calls blk0 ln_blk0 (some ⟨b10, 0, none⟩) 1 w' h
  unfold EncK at hEn
  rw [show ebE blk0 = 0 from if_pos may_blk0] at hEn
  have hSm := fun (y : DecY (bkB blk0)) w' h1 h2 => SameBk_calls blk0 y.b ln_blk0 y.ln (some ⟨b10, 0, none⟩) 1 y.a y.c w' h1 h2
  rw [← hF] at hF10 hEn hSm ⊢
  rw [← hG] at hA ⊢
  have hz1 : ([(b1, Obj.cells F.toArray 27 (0, 0)), (b10, Obj.cells G.toArray 64 (0, 0))] : Hp).Perm ([] ++ [(b1, Obj.cells F.toArray 27 (0, 0)), (b10, Obj.cells G.toArray 64 (0, 0))]) := List.Perm.refl _
  refine Run.op1 (OpTo.callT Tryz.func16 hz1 (fun w' hm => hEn w' (hA hm (List.mem_cons_of_mem _ List.mem_cons_self)))) ?_
  rintro ⟨⟨v2, l2⟩, h2⟩
  dsimp only at h2 ⊢
  rw [show wrB blk0 = bkB blk0 from if_pos may_blk0] at h2
  obtain ⟨a2, c2, rfl, hc2⟩ := h2.shape
  refine x_ ?_
  have hz2 : (l2 ++ [(b1, Obj.cells F.toArray 27 (0, 0)), (b10, Obj.cells G.toArray 64 (0, 0))] : Hp).Perm ([] ++ (l2 ++ [(b1, Obj.cells F.toArray 27 (0, 0)), (b10, Obj.cells G.toArray 64 (0, 0))])) := List.Perm.refl _
  refine Run.op1 (OpTo.callT Tryz.func17 hz2 (fun w' hm => DecBk_calls (bkB blk0) (by omega) (bt_bk may_blk0) (.slice a2 (bkB blk0).length c2) w' (h2.srcW (fun q hq => hm.has q (List.mem_append_left _ hq))))) ?_
  intro y
  rw [(dk_back may_blk0).1]
  have hk : Key y.b blk0 := y.key.trans (dk_back may_blk0).2
  have hmy := hk.may.2 may_blk0
  have hId := fun w' h1 h2 => IdBk_calls y.b y.ln y.a y.c w' h1 h2
  rw [decide_eq_true hmy, hk.id] at hId
  have hi8 := idB_len blk0
  have hin := id_blk0
  have hsm : SameK blk0 y.b := ⟨may_blk0, hmy, hk.by.symm⟩
  have hSy := hSm y
  rw [decide_eq_true hsm] at hSy
  have r8 := bk_r8 y.b y.a y.c
  rw [hk.w] at r8
  have hy10 : (bkC y.b y.a y.c).toArray.size = 10 := by rw [List.size_toArray, bkC_len]
  have hy1 := bkC_one y.b y.a y.c
  have hyat := y.hat
  have hybl : ∀ {w' : World} {L0 L1 : Hp}, Mem w [] (L0 ++ (y.bl ++ L1)) w' → Has y.bl w' := fun hm p hp => hm.has p (List.mem_append_right _ (List.mem_append_left _ hp))
  generalize bkC y.b y.a y.c = Y at r8 hy10 hy1 hId hSy ⊢
  generalize idB blk0 = D at hi8 hin hId
  have hDs : (u8s D).toArray.size = 8 := by rw [List.size_toArray, u8s_len, hi8]
  refine x_ ?_
  refine Run.nw nal ?_
  intro b4
  refine x_ ?_
  refine Run.op1 (osa (arr := ti27.zero.cells) Y.toArray hy1 (hs := by exact hy10)) (fun _ => ?_)
  refine x_ ?_
  refine Run.op1 (OpTo.cv Tryz.func11 (fun w' hm => hId w' (hyat w' (hybl (L0 := [_]) hm)) (hK.fr hm.fr (by simp)))) (fun _ => ?_)
  refine x_ ?_
  refine Run.nw nal ?_
  intro b6
  refine x_ ?_
  refine Run.op1 (osa (arr := ti23.zero.cells) (u8s D).toArray (u8s_one D) (hs := by rw [List.size_toArray, u8s_len, hi8]; rfl)) (fun _ => ?_)
  refine x_ ?_
  refine Run.opG (Wanted.guard rfl rfl rfl rfl) (OpTo.cv Tryz.func15 (fun w' hm => hSy w' (hA hm (List.mem_cons_of_mem _ (List.mem_cons_of_mem _ (List.mem_append_right _ (List.mem_append_right _ (List.mem_cons_of_mem _ List.mem_cons_self)))))) (hyat w' (hybl (L0 := [_, _]) hm)))) (fun _ => ?_)
  refine x_ ?_
  refine Run.a (Val.eq (Val.neU (m := 8) (a := D) (b := List.replicate 8 0) tabOk rfl rfl rfl (by kernel_rfl) (by kernel_rfl) rfl rfl hi8 rfl) (show _ = Value.bool true from by rw [decide_eq_false hin]; rfl)) ?_
  refine x_ ?_
  refine Run.a Val.feql ?_
  rw [show (Ieee.double.order blk0.wk 4613937818241073152 == some .eq) = true from by decide +kernel]
  refine x_ ?_
  exact RQ.ret1 rfl (Res.tmp rfl) fun w' hm => ⟨rfl, hm.fr⟩
end Go.Proofs.YtfoeakgnkfcbjaaGreatDoor
end
section
/- block: BlockCuts. -/
namespace Go.Proofs.YtfoeakgnkfcbjaaGreatDoor
attribute [local irreducible] Go.Vc.Run Go.Vc.RC Go.Vc.RQ Go.Vc.DR Go.Vc.DOp Go.Vc.Knows Go.Vc.At
set_option maxHeartbeats 400000
set_option maxRecDepth 10000
open Go Go.Vc Go.Sha
set_option maxRecDepth 10000 in set_option maxHeartbeats 4000000 in
theorem BlockCuts_calls (t : BkV) (a : Option Addr) (c : Nat) (cut : Nat) (hcut : cut < 65536) (w : World) (ht : BkAt w t a c) (hK : Laid w) : Gives Tryz.prog 4 [.agg (bkC t a c).toArray, .int .u16 cut] (.bool true) w := by
  refine enter Tryz.func4 rfl (Mem.nil w []) rfl ?_
  have ca : Knows Tryz.prog w 9 [] (.bool true) := Knows.mk Tryz.func9 (fun w' hf => awake17_calls w' (hK.fr hf (by simp)))
  have cf : Knows Tryz.prog w 10 [.agg (bkC t a c).toArray] (.bool (decide (FewK t))) := Knows.mk Tryz.func10 (fun w' hf => FewBk_calls t a c w' (ht.fr hf))
  have hFs : (bkC t a c).toArray.size = 10 := by rw [List.size_toArray, bkC_len]
  by_cases hf : FewK t
  rotate_left
  · rw [decide_eq_false hf] at cf
    generalize bkC t a c = F at hFs cf ⊢
    refine x_ ?_
    refine Run.nw nbx ?_
    intro b1
    refine x_ ?_
    exact RQ.ret1 rfl (Res.tmp rfl) fun w' hm => ⟨rfl, hm.fr⟩
  rw [decide_eq_true hf] at cf
  have hln := hf.ln
  have hE : ∀ w', Fr [] w w' → Turns Tryz.prog 16 [.agg (bkC t a c).toArray] w' [] (Y := WrY t) (fun y => .tuple #[y.1.1, .int .i64 (ebE t)]) (fun y => y.1.2) := fun w' hf => EncBk_calls t hln a c w' (ht.fr hf)
  generalize bkC t a c = F at hFs cf hE ⊢
  refine x_ ?_
  refine Run.nw nbx ?_
  intro b1
  refine x_ ?_
  have hz0 : ([(b1, Obj.cells F.toArray 27 (0, 0))] : Hp).Perm ([] ++ [(b1, Obj.cells F.toArray 27 (0, 0))]) := List.Perm.refl _
  refine Run.op1 (OpTo.callT Tryz.func16 hz0 (fun w' hm => hE w' hm.fr)) ?_
  rintro ⟨⟨v5, l5⟩, h5⟩
  dsimp only at h5 ⊢
  by_cases hM : MayB t
  rotate_left
  · rw [show ebE t = 1 from if_neg hM]
    refine x_ ?_
    exact RQ.ret1 rfl (Res.tmp rfl) fun w' hm => ⟨rfl, hm.fr⟩
  rw [show ebE t = 0 from if_pos hM]
  rw [show wrB t = bkB t from if_pos hM] at h5
  have hbl := bkB_len hM
  have hb0 : 0 < (bkB t).length := by omega
  obtain ⟨a5, c5, rfl, hc5⟩ := h5.shape
  obtain ⟨k, hk, hkl⟩ : ∃ k, cut % (bkB t).length = k ∧ k < (bkB t).length := ⟨_, rfl, Nat.mod_lt _ hb0⟩
  refine x_ ?_
  rw [hk]
  refine Run.a (Val.sHi tabOk k rfl rfl rfl rfl rfl rfl (by omega) (by omega)) ?_
  have hkt : ((bkB t).take k).length = k := by rw [List.length_take]; omega
  have hz1 : (l5 ++ [(b1, Obj.cells F.toArray 27 (0, 0))] : Hp).Perm ([] ++ (l5 ++ [(b1, Obj.cells F.toArray 27 (0, 0))])) := List.Perm.refl _
  refine Run.op1 (OpTo.callT Tryz.func17 hz1 (fun w' hm => DecBk_calls ((bkB t).take k) (by omega) (fun x hx => bt_bk hM x (List.mem_of_mem_take hx)) (.slice a5 k c5) w' (by have h := (h5.srcW (w := w') (fun q hq => hm.has q (List.mem_append_left _ hq))).tk (k := k) (by omega); rw [Nat.mul_one, ← u8s_take] at h; rw [hkt]; exact h))) ?_
  rw [dk_cut hM hkl]
  intro y7
  have hG7 : (bkC y7.b y7.a y7.c).toArray.size = 10 := by rw [List.size_toArray, bkC_len]
  have hO7 := bkC_one y7.b y7.a y7.c
  generalize hGG7 : bkC y7.b y7.a y7.c = G7 at hG7 hO7 ⊢
  generalize y7.bl = l7
  refine x_ ?_
  refine Run.nw nal ?_
  intro b7
  refine x_ ?_
  refine Run.op1 (osa (arr := ti27.zero.cells) G7.toArray hO7 (hs := by exact hG7)) (fun _ => ?_)
  refine x_ ?_
  refine Run.nw (New.buildSlice tabOk (parts := []) (cells := #[]) rfl rfl rfl rfl rfl rfl (fillS_nil _ _)) ?_
  intro b40
  refine x_ ?_
  have h40 : Own 5 1 (.slice (some ⟨b40, 0, none⟩) 0 0) ([] : List Nat).length (u8s []) [(b40, .cells #[] 5 (0, 0))] := Own.row b40 0 0 [] [] rfl rfl (Nat.le_refl _) (by unfold maxLen; decide)
  refine Run.op1 (apB (L1 := (b7, Obj.cells G7.toArray 27 (0, 0)) :: (l7 ++ (l5 ++ [(b1, Obj.cells F.toArray 27 (0, 0))]))) h40 (bkB t) (h5.src (fun q hq => (by repeat (first | exact List.mem_append_left _ hq | exact hq | apply List.mem_append_right | apply List.mem_cons_of_mem)))) (by simp only [List.length_nil]; omega) (perm_of fun f => by (simp only [List.map_append, List.map_cons, List.map_nil, List.sum_append, List.sum_cons, List.sum_nil] <;> omega))) ?_
  rintro ⟨⟨v42, l42⟩, h42⟩
  dsimp only at h42 ⊢
  rw [List.nil_append] at h42
  refine x_ ?_
  have hw8 : IntKind.u8.wrap (cut : Int) = ((cut % 256 : Nat) : Int) := wrap_u8 cut
  rw [hw8]
  refine Run.nw (nbsk (parts := [(0, .tmp 49)]) (u8s [cut % 256]).toArray) ?_
  intro b50
  refine x_ ?_
  refine Run.op1 (apB (L1 := (b50, Obj.cells (u8s [cut % 256]).toArray 5 (0, 0)) :: ((b7, Obj.cells G7.toArray 27 (0, 0)) :: (l7 ++ (l5 ++ [(b1, Obj.cells F.toArray 27 (0, 0))])))) h42 [cut % 256] (Src.at ⟨b50, 0, none⟩ 1 1 (u8s [cut % 256]) rfl (Rd.rowAll m0)) (by simp only [List.length_cons, List.length_nil]; omega) (perm_of fun f => by (simp only [List.map_append, List.map_cons, List.map_nil, List.sum_append, List.sum_cons, List.sum_nil] <;> omega))) ?_
  rintro ⟨⟨v46, l46⟩, h46⟩
  dsimp only at h46 ⊢
  have hx8 : cut % 256 < 256 := Nat.mod_lt _ (by decide)
  have hz2 : (l46 ++ ((b50, Obj.cells (u8s [cut % 256]).toArray 5 (0, 0)) :: ((b7, Obj.cells G7.toArray 27 (0, 0)) :: (l7 ++ (l5 ++ [(b1, Obj.cells F.toArray 27 (0, 0))])))) : Hp).Perm ([] ++ (l46 ++ ((b50, Obj.cells (u8s [cut % 256]).toArray 5 (0, 0)) :: ((b7, Obj.cells G7.toArray 27 (0, 0)) :: (l7 ++ (l5 ++ [(b1, Obj.cells F.toArray 27 (0, 0))])))))) := List.Perm.refl _
  refine Run.op1 (OpTo.callT Tryz.func17 hz2 (fun w' hm => DecBk_calls (bkB t ++ [cut % 256]) (by rw [List.length_append, List.length_singleton]; omega) (bt_app (bt_bk hM) (fun x hx => by rw [List.mem_singleton] at hx; subst hx; exact hx8)) v46 w' (h46.srcW (fun q hq => hm.has q (List.mem_append_left _ hq))))) ?_
  rw [dk_more hM _ hx8]
  intro y9
  have hG9 : (bkC y9.b y9.a y9.c).toArray.size = 10 := by rw [List.size_toArray, bkC_len]
  have hO9 := bkC_one y9.b y9.a y9.c
  generalize hGG9 : bkC y9.b y9.a y9.c = G9 at hG9 hO9 ⊢
  generalize y9.bl = l9
  refine x_ ?_
  refine Run.nw nal ?_
  intro b9
  refine x_ ?_
  refine Run.op1 (osa (arr := ti27.zero.cells) G9.toArray hO9 (hs := by exact hG9)) (fun _ => ?_)
  refine x_ ?_
  exact RQ.ret1 rfl (Res.tmp rfl) fun w' hm => ⟨rfl, hm.fr⟩
end Go.Proofs.YtfoeakgnkfcbjaaGreatDoor
end
section
/- From a walk to what the row asks: the arguments read as before, nothing old has turned. -/
namespace Go.Vc
open Go Go.ChangeShapes Go.WideShapes Go.ChangeAt Go.RowKit

/-- No slice's elements are nothing at all. -/
def slicesFull (P : Program) : Bool := (List.range P.types.size).all fun t => match P.underlying t with
  | some (.slice e) => Nat.blt 0 (P.cellsOf e)
  | _ => true
theorem slicesFull_spec {P : Program} (h : slicesFull P = true) {t e : TypeId} (ht : t < P.types.size) (hu : P.underlying t = some (.slice e)) : 0 < P.cellsOf e := by
  have := List.all_eq_true.1 h t (List.mem_range.2 ht)
  simp only [hu] at this
  simpa [Nat.blt_eq] using this

section
variable {H : Type} {enc : TypeId × Value → H} {P : Program}

theorem sameAt_below {w w' : World} (h : Below w.heap.size w w') {p : MemPlace} (hp : p.block < w.heap.size) : w.sameAt w' p := by
  cases p with
  | cell b o => 
    have := h.block b hp
    simp [World.sameAt, World.cell?, this]
  | map b =>
    have := h.block b hp
    simp [World.sameAt, this]

theorem trodAll_stay (hl : laidOutB P = true) (hm : mapsRowed P = true) (hsl : slicesFull P = true) {w w' : World} (hb : Below w.heap.size w w') {sp : Nat → Bool} :
    ∀ (ts : List TypeId) (vs : List Value) (ds : List (DataW H)) (ps : List MemPlace), (∀ t ∈ ts, t < P.types.size) → DataW.TrodAll enc P w 0 (fun _ => true) true ts vs ds ps →
      (∀ p ∈ ps, p.block < w.heap.size) → (∀ p ∈ ps, sp p.block = true) → DataW.TrodAll enc P w' 0 sp true ts vs ds ps
  | [], vs, ds, ps, _, h, _, _ => by
    obtain ⟨rfl, rfl, rfl⟩ := trodAll_nil h
    exact trodAll_mk0
  | t :: ts, vs, ds, ps, ht, h, hlt, hs => by
    obtain ⟨v, vs', d, ds', p, q, rfl, rfl, rfl, ⟨n, h1⟩, h2⟩ := trodAll_cons h
    refine ⟨p, q, ⟨n, ?_⟩, trodAll_stay hl hm hsl hb ts vs' ds' q (fun t ht' => ht t (List.mem_cons_of_mem _ ht')) h2 (fun x hx => hlt x (List.mem_append_right _ hx)) (fun x hx => hs x (List.mem_append_right _ hx)), rfl⟩
    exact DataW.trod_stays (kids_rows hl hm) (fun h1 h2 => slicesFull_spec hsl h1 h2) (fun h => by cases h) (ht t List.mem_cons_self) h1
      (fun x hx => sameAt_below hb (hlt x (List.mem_append_left _ hx))) (fun x hx => hs x (List.mem_append_left _ hx))

/-- What a law's row asks behind a call that returns true and turns nothing old. -/
theorem post_true {f : Func} {s : ChangeSpec} {apart fresh handsOn : Bool} {W W' : World} {args : Array Value} {ds gs : List (DataW H)} {before : List MemPlace} {tb : TypeId}
    (hl : laidOutB P = true) (hm : mapsRowed P = true) (hsl : slicesFull P = true) (hts : f.params.toList.all (fun t => Nat.blt t P.types.size) = true) (hrt : f.resultTypes = #[tb]) (hub : P.underlying tb = some .bool)
    (hW : DataW.Whole enc P f.params.toList s.vars apart W args.toList ds gs before) (hv : s.vars = []) (hsr : (s.fn H ds).results = [.lit (.bool true)]) (hsa : (s.fn H ds).args = ds) (hsv : (s.fn H ds).vars = [])
    (hf : Fr [] W W') : s.post enc P f apart fresh handsOn false W args (.bool true) W' := by
  have hb := hf.below
  have hlt := hW.lt
  have hW' := hW
  obtain ⟨p, q, hA, hV, rfl, hz, hn⟩ := hW'
  rw [hv] at hV
  obtain ⟨rfl, rfl⟩ := trodVars_none hV
  have hts' : ∀ t ∈ f.params.toList, t < P.types.size := fun t ht => by simpa [Nat.blt_eq] using List.all_eq_true.1 hts t ht
  have hag : ∀ sp : Nat → Bool, (∀ x ∈ p ++ [], sp x.block = true) → DataW.TrodAll enc P W' 0 sp true f.params.toList args.toList ds p := fun sp hsp =>
    trodAll_stay hl hm hsl hb _ _ _ _ hts' hA (fun x hx => hlt x (List.mem_append_left _ hx)) (fun x hx => hsp x (List.mem_append_left _ hx))
  have hres : ∀ (b : Nat) (sp : Nat → Bool) (hd : Bool), DataW.TrodAll enc P W' b sp hd f.resultTypes.toList ((Value.bool true).resultList f.resultTypes.size) [.lit (.bool true)] [] := fun b sp hd => by
    rw [hrt]
    exact trodAll_cons_mk (shut_bool hub _) trodAll_mk0
  have hold : ∀ x ∈ p ++ [], (fun b => decide (b < W.heap.size)) x.block = true := fun x hx => by simpa using hlt x hx
  refine ⟨ds, [], p ++ [], [], p, [], hW, ?_, ?_, ?_, World.keptBut_mono (fun x hx => ⟨hx, ?_⟩) (hb.frame (· ∈ p ++ [])), fun h => by cases h⟩
  · rw [List.append_nil, hsr]; exact hres _ _ _
  · rw [List.append_nil, hsa]; exact hag _ hold
  · rw [List.append_nil, hsv, hv]; exact rfl
  · simpa using hx
end
end Go.Vc

/- Arguments that are bytes in arrays; what is laid. -/
namespace Go.Vc
open Go Go.Sha Go.ChangeShapes Go.WideShapes Go.ChangeAt Go.RowKit

section
variable {H : Type} {enc : TypeId × Value → H} {P : Program}
theorem mapM_all {α β : Type} {f : α → Option β} : ∀ {l : List α} {r : List β}, l.mapM f = some r → ∀ x ∈ l, ∃ y, f x = some y
  | [], _, _, _, h => by cases h
  | a :: l, r, h, x, hx => by
    rw [List.mapM_cons] at h
    simp only [bind, Option.bind_eq_some_iff, pure, Option.some.injEq] at h
    obtain ⟨y, hy, ys, hys, _⟩ := h
    rcases List.mem_cons.1 hx with rfl | hx
    · exact ⟨y, hy⟩
    · exact mapM_all hys x hx
theorem params_plain {fn : Func} (h : fn.params.all (fun t => !P.wantsStandIn t) = true) (j : Nat) (t : TypeId) (ht : fn.params[j]? = some t) : P.wantsStandIn t = false := by
  have := Array.all_eq_true_iff_forall_mem.1 h t (Array.mem_of_getElem? ht)
  simpa using this
end
end Go.Vc

/- Arguments that are slices of bytes, slices of such, strings. -/
namespace Go.Vc
open Go Go.Sha Go.ChangeShapes Go.WideShapes Go.ChangeAt Go.RowKit Go.Deep
section
variable {H : Type} {enc : TypeId × Value → H} {P : Program}

end
end Go.Vc

/- What is laid: hash.steps; closed facts of the program. -/
namespace Go.Proofs.YtfoeakgnkfcbjaaGreatDoor
open Go Go.Vc Go.Sha Go.ChangeShapes Go.WideShapes Go.ChangeAt Go.RowKit

theorem kLaidOut : laidOutB Tryz.prog = true := by kernel_rfl
theorem kMaps : mapsRowed Tryz.prog = true := by kernel_rfl
theorem kSlices : slicesFull Tryz.prog = true := by kernel_rfl
theorem kOwn : ownKnob Tryz.prog.godebug = Option.none := by kernel_rfl
theorem kTab : Tryz.prog.globalNamed "drawbridge/hash.steps" = some 1 := by kernel_rfl
theorem kTabType : (Tryz.prog.globals[1]?).map (·.type) = some 111 := by kernel_rfl
theorem kCellsT : Tryz.prog.cellsOf 111 = 64 := by kernel_rfl
theorem kCellsE : Tryz.prog.cellsOf 109 = 1 := by kernel_rfl
/-- What the row's list gives. -/
theorem laid_of {W : World} (h : laidMet Tryz.prog [("drawbridge/hash.steps", Rows.laid_drawbridge_hash_steps)] W) : Laid W := fun i hi => by
  have h1 : Lib.TabIs Tryz.prog W "drawbridge/hash.steps" .u32 (K.map Int.ofNat) :=
    Lib.tabIs_of_head (rest := []) kTab kTabType Tryz.underlying111 Tryz.underlying109 kCellsE kCellsT h
  have := h1.cell kTab i (by rw [List.length_map, K_len]; exact hi)
  rw [this]
  have hk : i < K.length := by rw [K_len]; exact hi
  simp [List.getD_eq_getElem?_getD, hk]

/-- A world for the witness: the table holds what its initialiser lays. -/
noncomputable def laidWorld (os : Os) : World :=
  { World.holding Tryz.prog os ⟨#[], #[], []⟩ with heap := (World.holding Tryz.prog os ⟨#[], #[], []⟩).heap.modify 1 fun
      | .cells _ t frozen => .cells (u32s K).toArray t frozen
      | o => o }
end Go.Proofs.YtfoeakgnkfcbjaaGreatDoor
end
section
/- Arguments that are slices of hashes, arrays of numbers. -/
namespace Go.Vc
open Go Go.Sha Go.ChangeShapes Go.WideShapes Go.ChangeAt Go.RowKit Go.Deep
section
variable {H : Type} {enc : TypeId × Value → H} {P : Program}
end
end Go.Vc

/- Arguments that are slices of ints, of bools, and parameters. -/
namespace Go.Vc
open Go Go.Sha Go.ChangeShapes Go.WideShapes Go.ChangeAt Go.RowKit Go.Deep
section
variable {H : Type} {enc : TypeId × Value → H} {P : Program}
end
end Go.Vc
namespace Go.Proofs.YtfoeakgnkfcbjaaGreatDoor
open Go Go.Vc
end Go.Proofs.YtfoeakgnkfcbjaaGreatDoor
end
section
/- Arguments that are slices of records of numbers. -/
namespace Go.Vc
open Go Go.Sha Go.ChangeShapes Go.WideShapes Go.ChangeAt Go.RowKit Go.Deep
def Ok1 (v : Value) : Prop := ∀ k z, v = .int k z → (Lit.int k z).wf = true
section
variable {H : Type} {enc : TypeId × Value → H} {P : Program}
theorem flat_trod (hl : laidOutB P = true) (hm : mapsRowed P = true) {w : World} {base : Nat} {sp : Nat → Bool} {held : Bool} : ∀ (d n : Nat) (t : TypeId) (ks : List IntKind) (cs : List Value) (x : DataW H × List MemPlace),
    t < P.types.size → kindsOf P d t = some ks → ks.length = P.cellsOf t → DataW.trod enc P w base sp held n t cs = some x → HasK ks cs ∧ ∀ v ∈ cs, Ok1 v
  | 0, _, _, _, _, _, _, hk, _, _ => by cases hk
  | d + 1, n, t, ks, cs, x, ht, hk, hc, h => by
    unfold kindsOf at hk
    cases hu : P.underlying t with
    | none => rw [hu] at hk; cases hk
    | some kd =>
      rw [hu] at hk
      cases kd with
      | int k =>
        cases hk
        cases n with
        | zero => simp [DataW.trod] at h
        | succ n =>
          obtain ⟨z, hcs, _, hw⟩ := DataW.trod_int hu h
          rw [hcs]
          refine ⟨.cons k z .nil, fun v hv k' z' e => ?_⟩
          rw [List.mem_singleton] at hv
          subst hv
          cases e
          exact hw
      | array m e =>
        simp only at hk
        cases hke : kindsOf P d e with
        | none => rw [hke] at hk; cases hk
        | some ke =>
          rw [hke] at hk
          simp only at hk
          cases hb : Nat.beq ke.length (P.cellsOf e) with
          | false => rw [hb] at hk; cases hk
          | true =>
            rw [hb] at hk
            simp only [cond_true, Option.some.injEq] at hk
            have hce : ke.length = P.cellsOf e := Nat.eq_of_beq_eq_true hb
            have K := (kids_rows hl hm).array ht hu
            cases n with
            | zero => simp [DataW.trod] at h
            | succ n =>
              unfold DataW.trod at h
              simp only [hu] at h
              split at h
              · rename_i hlen
                simp only [Option.map_eq_some_iff] at h
                obtain ⟨xs, hx, rfl⟩ := h
                have hpart : ∀ i, i < m → HasK ke ((cs.drop (i * P.cellsOf e)).take (P.cellsOf e)) ∧ ∀ v ∈ (cs.drop (i * P.cellsOf e)).take (P.cellsOf e), Ok1 v := fun i hi => by
                  obtain ⟨y, hy⟩ := mapM_all hx i (List.mem_range.2 hi)
                  exact flat_trod hl hm d n e ke _ y K.1 hke hce hy
                rw [K.2] at hlen
                have key : ∀ j, j ≤ m → HasK (List.replicate j ke).flatten (cs.drop ((m - j) * P.cellsOf e)) ∧ ∀ v ∈ cs.drop ((m - j) * P.cellsOf e), Ok1 v := by
                  intro j
                  induction j with
                  | zero =>
                    intro _
                    rw [Nat.sub_zero, List.drop_of_length_le (by omega)]
                    exact ⟨.nil, fun v hv => by cases hv⟩
                  | succ j ih =>
                    intro hj
                    obtain ⟨i1, i2⟩ := ih (by omega)
                    obtain ⟨p1, p2⟩ := hpart (m - (j + 1)) (by omega)
                    have e1 : cs.drop ((m - (j + 1)) * P.cellsOf e) = (cs.drop ((m - (j + 1)) * P.cellsOf e)).take (P.cellsOf e) ++ cs.drop ((m - j) * P.cellsOf e) := by
                      conv => lhs; rw [← List.take_append_drop (P.cellsOf e) (cs.drop ((m - (j + 1)) * P.cellsOf e)), List.drop_drop]
                      rw [show m - j = m - (j + 1) + 1 by omega, Nat.add_mul (m - (j + 1)) 1, Nat.one_mul]
                    rw [e1, List.replicate_succ, List.flatten_cons]
                    refine ⟨p1.append i1, fun v hv => ?_⟩
                    rcases List.mem_append.1 hv with hv | hv
                    · exact p2 v hv
                    · exact i2 v hv
                obtain ⟨k1, k2⟩ := key m (Nat.le_refl _)
                rw [Nat.sub_self, Nat.zero_mul, List.drop_zero] at k1 k2
                rw [← hk]
                exact ⟨k1, k2⟩
              · cases h
      | struct fs =>
        simp only at hk
        cases hst : P.stoodInHeld t with
        | true => rw [hst] at hk; cases hk
        | false =>
          rw [hst] at hk
          simp only [cond_false] at hk
          obtain ⟨xs, n', _, _, hlen, hxl, hf⟩ := DataW.trod_struct hu h
          have K := (kids_rows hl hm).struct ht hu
          have key : ∀ (gs : List Field) (off : Nat) (kg : List IntKind), (∀ f ∈ gs, f.type < P.types.size ∧ ∃ y, DataW.trod enc P w base sp held n' f.type ((cs.drop f.offset).take (P.cellsOf f.type)) = some y) → kindsF P (kindsOf P d) gs off = some kg →
              HasK kg ((cs.drop off).take kg.length) ∧ ∀ v ∈ (cs.drop off).take kg.length, Ok1 v := by
            intro gs
            induction gs with
            | nil =>
              intro off kg _ hg
              cases hg
              exact ⟨by simpa using HasK.nil, fun v hv => by simp at hv⟩
            | cons f gs ih =>
              intro off kg hfs hg
              unfold kindsF at hg
              cases hkf : kindsOf P d f.type with
              | none => rw [hkf] at hg; cases hg
              | some kf =>
                rw [hkf] at hg
                simp only at hg
                cases hb : (f.name != "_" && (Nat.beq f.offset off && Nat.beq kf.length (P.cellsOf f.type))) with
                | false => rw [hb] at hg; cases hg
                | true =>
                  rw [hb] at hg
                  simp only [cond_true, Option.map_eq_some_iff] at hg
                  obtain ⟨kr, hr, rfl⟩ := hg
                  simp only [Bool.and_eq_true] at hb
                  have ho : f.offset = off := Nat.eq_of_beq_eq_true hb.2.1
                  have hcl : kf.length = P.cellsOf f.type := Nat.eq_of_beq_eq_true hb.2.2
                  obtain ⟨ht1, y, hy⟩ := hfs f List.mem_cons_self
                  obtain ⟨p1, p2⟩ := flat_trod hl hm d n' f.type kf _ y ht1 hkf hcl hy
                  obtain ⟨i1, i2⟩ := ih (off + kf.length) kr (fun g hg => hfs g (List.mem_cons_of_mem _ hg)) hr
                  rw [ho, ← hcl] at p1 p2
                  have e1 : (cs.drop off).take (kf ++ kr).length = (cs.drop off).take kf.length ++ (cs.drop (off + kf.length)).take kr.length := by
                    rw [List.length_append, List.take_add, List.drop_drop]
                  rw [e1]
                  refine ⟨p1.append i1, fun v hv => ?_⟩
                  rcases List.mem_append.1 hv with hv | hv
                  · exact p2 v hv
                  · exact i2 v hv
          obtain ⟨k1, k2⟩ := key fs.toList 0 ks (fun f hfm => by
            refine ⟨K.1 f hfm, ?_⟩
            obtain ⟨i, hi, hfi⟩ := List.mem_iff_getElem.1 hfm
            have h1 := hf i f (by rw [← Array.getElem?_toList, List.getElem?_eq_getElem hi, hfi])
            have h2 : i < xs.length := by rw [hxl]; simpa using hi
            exact ⟨xs[i], h1.trans (List.getElem?_eq_getElem h2)⟩) hk
          rw [List.drop_zero, List.take_of_length_le (by omega)] at k1 k2
          exact ⟨k1, k2⟩
      | _ => cases hk
end
theorem u8list_of : ∀ {n : Nat} {cs : List Value}, HasK (List.replicate n .u8) cs → (∀ v ∈ cs, Ok1 v) → ∃ l : List Nat, cs = u8s l ∧ l.length = n ∧ ∀ x ∈ l, x < 256
  | 0, _, .nil, _ => ⟨[], rfl, rfl, fun x hx => by cases hx⟩
  | n + 1, _, .cons _ z h, ho => by
    obtain ⟨l, rfl, hl, hb⟩ := u8list_of h (fun v hv => ho v (List.mem_cons_of_mem _ hv))
    have := bounds_u8 (ho _ List.mem_cons_self .u8 z rfl)
    refine ⟨z.toNat :: l, ?_, by simp [hl], fun x hx => ?_⟩
    · show _ = Value.int .u8 (z.toNat : Int) :: u8s l
      rw [Int.toNat_of_nonneg this.1]
    · rcases List.mem_cons.1 hx with rfl | hx
      · omega
      · exact hb x hx
end Go.Vc
end
