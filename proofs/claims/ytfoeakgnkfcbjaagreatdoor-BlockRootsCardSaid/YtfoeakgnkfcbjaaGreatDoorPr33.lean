/- Lemmas. -/
import Derived.ChangeStays
import Derived.ChangeOld
import Derived.ChangeSame
import Derived.RowKit
import Derived.OpenShut
import Derived.ProofKit
import Derived.Deep.DeepHandedRow
import GoSem.ClaimSeven
import Derived.Deep.Slices
import Derived.Test.YtfoeakgnkfcbjaaGreatDoorCards
import Derived.Test.YtfoeakgnkfcbjaaGreatDoorTie
import Derived.WalkKit
import Derived.Lib.LaidTab
import Derived.Test.YtfoeakgnkfcbjaaGreatDoorPr32
set_option linter.unusedSimpArgs false
set_option linter.unusedVariables false
section
/- block: the plain law of Decode; Few; awake. -/
namespace Go.Proofs.YtfoeakgnkfcbjaaGreatDoor
attribute [local irreducible] Go.Vc.Run Go.Vc.RC Go.Vc.RQ Go.Vc.DR Go.Vc.DOp Go.Vc.Knows Go.Vc.At
set_option maxHeartbeats 400000
set_option maxRecDepth 10000
open Go Go.Vc Go.Sha
theorem wk_bits {b : BkV} (h : MayB b) : bitsF b.wk = le b.wk 8 ∧ num8 (bitsF b.wk) = b.wk := by
  have hn : nanB b.wk = false := by
    have h1 : kindF (trP b.wk) b.wk = 5 := beq_iff_eq.1 h.1
    have := wk_ord h1
    unfold nanB
    rw [this]
    rfl
  have e : bitsF b.wk = le b.wk 8 := by unfold bitsF; rw [hn, if_neg (by decide)]
  exact ⟨e, by rw [e]; exact num8_leT 8 _ b.hw⟩
/-- What a block's bytes read as. -/
def bkX (b : BkV) : By 8 × By 8 × List (List Nat) := (b.pv, ⟨bitsF b.wk, bits_len _, bits_lt _⟩, b.ts.map fun q => q.1.b)
theorem bkX_E (b : BkV) : bkE (bkX b) = bkB b := by
  unfold bkE bkX bkB rowB txsB
  dsimp only
  rw [List.length_map, List.map_map]
  rfl
theorem bkX_R {b : BkV} (h : MayB b) : (bkX b).2.2.length < 256 ∧ ∀ y ∈ (bkX b).2.2, bytR y := by
  refine ⟨by show (b.ts.map _).length < 256; rw [List.length_map]; have := h.2.1; omega, fun y hy => ?_⟩
  obtain ⟨q, hq, rfl⟩ := List.mem_map.1 hy
  have hm := may_all h q hq
  have := hm.bl
  exact ⟨by omega, bt_tx hm⟩
theorem key_X {b : BkV} (h : MayB b) : Key (kOf (bkX b).1 (bkX b).2.1 (bkX b).2.2) b := by
  refine ⟨rfl, (wk_bits h).2, ?_⟩
  show ((b.ts.map fun q => q.1.b).map fun x => (decT x, TxV.z)).map (·.1) = b.ts.map (·.1)
  rw [List.map_map, List.map_map]
  apply List.map_congr_left
  intro q hq
  exact dec_T (may_all h q hq)
theorem dk_back {b : BkV} (h : MayB b) : dkE (bkB b) = 0 ∧ Key (dkB (bkB b)) b := by
  have h1 := good_bk.a (bkX b) [] (bkX_R h) (fun x hx => by cases hx)
  rw [List.append_nil, bkX_E] at h1
  have hk := key_X h
  have hc : ([] : List Nat) = [] ∧ MayB (kOf (bkX b).1 (bkX b).2.1 (bkX b).2.2) ∧ bkB (kOf (bkX b).1 (bkX b).2.1 (bkX b).2.2) = bkB b := ⟨rfl, hk.may.2 h, hk.by⟩
  constructor
  · unfold dkE
    rw [h1]
    exact if_pos hc
  · unfold dkB
    rw [h1]
    dsimp only
    rw [if_pos hc]
    exact hk
def FewK (b : BkV) : Prop := b.ts.length ≤ 40 ∧ ∀ q ∈ b.ts, FewP q.1
noncomputable instance (b : BkV) : Decidable (FewK b) := Classical.propDecidable _
theorem FewK.ln {b : BkV} (h : FewK b) : BkLn b := fun q hq => (h.2 q hq).ln
set_option maxRecDepth 10000 in set_option maxHeartbeats 4000000 in
theorem FewBk_calls (b : BkV) (a : Option Addr) (c : Nat) (w : World) (hat : BkAt w b a c) : Gives Tryz.prog 10 [.agg (bkC b a c).toArray] (.bool (decide (FewK b))) w := by
  refine enter Tryz.func10 rfl (Mem.nil w []) rfl ?_
  have r9 := bk_r9 b a c
  have hF10 : (bkC b a c).toArray.size = 10 := by rw [List.size_toArray, bkC_len]
  generalize bkC b a c = F at r9 hF10 ⊢
  have hno : ∀ (w' : World), Fr [] w w' → ¬ FewK b → Ending.returned (.bool false) = Ending.returned (.bool (decide (FewK b))) ∧ Fr [] w w' := fun w' hf h => ⟨by rw [decide_eq_false h], hf⟩
  refine z_ ?_
  refine Run.nw nbx ?_
  intro b1
  have hmem := hat.s
  obtain ⟨N, hN⟩ : ∃ N, N = b.ts.length := ⟨_, rfl⟩
  rw [← hN] at r9 hmem
  by_cases h40 : 40 < N
  · have hn : ¬ FewK b := fun h => by have := h.1; omega
    refine x_ ?_
    exact RQ.ret1 rfl (Res.tmp rfl) fun w' hm => hno w' hm.fr hn
  refine x_ ?_
  refine RC.up N (D := Unit) (fun k _ => ∀ q ∈ b.ts.take k, FewP q.1) (fun k _ => [(3, .int .i64 k), (1, .pointer (some ⟨b1, 0, none⟩))]) (fun _ _ => [(b1, Obj.cells F.toArray 27 (0, 0))]) 0 () (Nat.zero_le _) (fun q hq => by cases hq) ⟨rfl, rfl, trivial⟩ (List.Sublist.refl _) ?_
  intro k _ hk hok
  by_cases hk' : k < N
  · obtain ⟨q, hx⟩ : ∃ q, b.ts[k]? = some q := ⟨_, List.getElem?_eq_getElem (by omega)⟩
    obtain ⟨ad, c', hv', hc', hcl, hr⟩ := hmem.pos (by omega)
    cases hv'
    have q0 : At w (ad.add (k * 170)) (txC q.1 q.2) := At.mk fun j u hj => by rw [add_add]; exact hr _ u (rws_at txR_len hx j u hj)
    have hT170 : (txC q.1 q.2).length = 170 := txC_len _ _
    have kF : Knows Tryz.prog w 30 [.agg (txC q.1 q.2).toArray] (.bool (decide (FewP q.1))) := Knows.mk Tryz.func30 (fun w' hf => TFew_calls q.1 q.2 w')
    generalize txC q.1 q.2 = T at q0 hT170 kF
    by_cases hfp : FewP q.1
    · rw [decide_eq_true hfp] at kF
      refine x_ ?_
      exact RQ.up (k + 1) () (Nat.lt_succ_self _) hk' (fun p hp => by
        rw [List.take_add_one, hx] at hp
        rcases List.mem_append.1 hp with h | h
        · exact hok p h
        · rw [List.mem_singleton.1 h]; exact hfp) ⟨rfl, rfl, trivial⟩ (List.Sublist.refl _)
    · have hn : ¬ FewK b := fun h => hfp (h.2 q (List.mem_of_getElem? hx))
      rw [decide_eq_false hfp] at kF
      refine x_ ?_
      exact RQ.ret1 rfl (Res.tmp rfl) fun w' hm => hno w' hm.fr hn
  obtain rfl : k = N := by omega
  rw [List.take_of_length_le (by omega)] at hok
  have hyes : FewK b := ⟨by omega, hok⟩
  rw [decide_eq_true hyes]
  refine x_ ?_
  exact RQ.ret1 rfl (Res.tmp rfl) fun w' hm => ⟨rfl, hm.fr⟩
end Go.Proofs.YtfoeakgnkfcbjaaGreatDoor
end
section
/- block: awake. -/
namespace Go.Proofs.YtfoeakgnkfcbjaaGreatDoor
attribute [local irreducible] Go.Vc.Run Go.Vc.RC Go.Vc.RQ Go.Vc.DR Go.Vc.DOp Go.Vc.Knows Go.Vc.At
set_option maxHeartbeats 400000
set_option maxRecDepth 10000
open Go Go.Vc Go.Sha
theorem Key.trans {a b c : BkV} (h : Key a b) (k : Key b c) : Key a c := ⟨h.p.trans k.p, h.w.trans k.w, h.t.trans k.t⟩
def blk0 : BkV := ⟨⟨[1, 0, 0, 0, 0, 0, 0, 0], rfl, by decide⟩, 4613937818241073152, by decide, [(coin1, TxV.z)]⟩
theorem may_blk0 : MayB blk0 := ⟨by decide +kernel, ⟨by decide, by decide⟩, fun i q h => by
  cases i with
  | zero =>
    have : q = (coin1, TxV.z) := (Option.some.inj h).symm
    subst this
    exact ⟨may_coin1, ⟨fun _ => rfl, fun _ => rfl⟩⟩
  | succ i => cases h⟩
theorem ln_blk0 : BkLn blk0 := fun q hq => by
  rw [List.mem_singleton.1 hq]
  exact ln_coin1
theorem id_blk0 : idB blk0 ≠ List.replicate 8 0 := by
  unfold idB rootB
  rw [if_pos may_blk0, if_pos may_blk0]
  have e : idL blk0.ts = [digest 120 [[1, 1, 0, 0, 0, 0]]] := by
    show [dgH 120 coin1 []] = _
    rw [show dgH 120 coin1 [] = digest 120 [coin1.b] from if_pos may_coin1, coin1_b]
  rw [e, (wk_bits may_blk0).1]
  show digest 98 [[1, 0, 0, 0, 0, 0, 0, 0], le 4613937818241073152 8, rootOf [digest 120 [[1, 1, 0, 0, 0, 0]]]] ≠ _
  decide +kernel
set_option maxRecDepth 10000 in set_option maxHeartbeats 4000000 in
theorem awake17_calls (w : World) (hK : Laid w) : Gives Tryz.prog 9 [] (.bool true) w := by
  refine enter Tryz.func9 rfl (Mem.nil w []) rfl ?_
  have hT170 : (txC coin1 TxV.z).toArray.size = 170 := by rw [List.size_toArray, txC_len]
  refine x_ ?_
  refine Run.a (vba (u8s [1, 0, 0, 0, 0, 0, 0, 0]).toArray) ?_
  refine Run.a (vbs (txC coin1 TxV.z).toArray) ?_
  refine Run.nw (nbsl (parts := [(0, .tmp 9)]) (txC coin1 TxV.z).toArray (fillS_1 170 _ (txC coin1 TxV.z) (txC_len _ _))) ?_
  intro b10
  refine Run.a (vbs (bkC blk0 (some ⟨b10, 0, none⟩) 1).toArray) ?_
  refine x_ ?_
  refine Run.nw nal ?_
  intro b1
  have hF1 := bkC_one blk0 (some ⟨b10, 0, none⟩) 1
  have hF10 : (bkC blk0 (some ⟨b10, 0, none⟩) 1).toArray.size = 10 := by rw [List.size_toArray, bkC_len]
  refine x_ ?_
  refine Run.op1 (osa (arr := ti27.zero.cells) (bkC blk0 (some ⟨b10, 0, none⟩) 1).toArray hF1 (hs := by exact hF10)) (fun _ => ?_)
  refine x_ ?_
  have hA : ∀ {w' : World} {L0 : Hp}, Mem w [] L0 w' → (b10, Obj.cells (txC coin1 TxV.z).toArray 64 (0, 0)) ∈ L0 → BkAt w' blk0 (some ⟨b10, 0, none⟩) 1 := fun hm hin => ⟨by
    show SrcW _ 170 (.slice (some ⟨b10, 0, none⟩) 1 1) 1 (rws txR [(coin1, TxV.z)])
    rw [rws_one]
    exact SrcW.row hm (e := 64) (fz := (0, 0)) (cs := txC coin1 TxV.z) hin (by rw [txC_len]) (Nat.le_refl 1), fun q hq => by
    rw [List.mem_singleton.1 hq]
    exact at_nul⟩
  have hBl := bkB_len may_blk0
  obtain ⟨F, hF⟩ : ∃ F, F = bkC blk0 (some ⟨b10, 0, none⟩) 1 := ⟨_, rfl⟩
  obtain ⟨G, hG⟩ : ∃ G, G = txC coin1 TxV.z := ⟨_, rfl⟩
  have hEn := fun w' h => EncBk_calls blk0 ln_blk0 (some ⟨b10, 0, none⟩) 1 w' h
  unfold EncK at hEn
  rw [show ebE blk0 = 0 from if_pos may_blk0] at hEn
  have hSm := fun (y : DecY (bkB blk0)) w' h1 h2 => SameBk_calls blk0 y.b ln_blk0 y.ln (some ⟨b10, 0, none⟩) 1 y.a y.c w' h1 h2
  rw [← hF] at hF10 hEn hSm ⊢
  rw [← hG] at hA ⊢
  have hz1 : ([(b1, Obj.cells F.toArray 27 (0, 0)), (b10, Obj.cells G.toArray 64 (0, 0))] : Hp).Perm ([] ++ [(b1, Obj.cells F.toArray 27 (0, 0)), (b10, Obj.cells G.toArray 64 (0, 0))]) := List.Perm.refl _
  refine Run.op1 (OpTo.callT Tryz.func16 hz1 (fun w' hm => hEn w' (hA hm (List.mem_cons_of_mem _ List.mem_cons_self)))) ?_
  rintro ⟨⟨v2, l2⟩, h2⟩
  dsimp only at h2 ⊢
  rw [show wrB blk0 = bkB blk0 from if_pos may_blk0] at h2
  obtain ⟨a2, c2, rfl, hc2⟩ := h2.shape
  refine x_ ?_
  have hz2 : (l2 ++ [(b1, Obj.cells F.toArray 27 (0, 0)), (b10, Obj.cells G.toArray 64 (0, 0))] : Hp).Perm ([] ++ (l2 ++ [(b1, Obj.cells F.toArray 27 (0, 0)), (b10, Obj.cells G.toArray 64 (0, 0))])) := List.Perm.refl _
  refine Run.op1 (OpTo.callT Tryz.func17 hz2 (fun w' hm => DecBk_calls (bkB blk0) (by omega) (bt_bk may_blk0) (.slice a2 (bkB blk0).length c2) w' (h2.srcW (fun q hq => hm.has q (List.mem_append_left _ hq))))) ?_
  intro y
  rw [(dk_back may_blk0).1]
  have hk : Key y.b blk0 := y.key.trans (dk_back may_blk0).2
  have hmy := hk.may.2 may_blk0
  have hId := fun w' h1 h2 => IdBk_calls y.b y.ln y.a y.c w' h1 h2
  rw [decide_eq_true hmy, hk.id] at hId
  have hi8 := idB_len blk0
  have hin := id_blk0
  have hsm : SameK blk0 y.b := ⟨may_blk0, hmy, hk.by.symm⟩
  have hSy := hSm y
  rw [decide_eq_true hsm] at hSy
  have r8 := bk_r8 y.b y.a y.c
  rw [hk.w] at r8
  have hy10 : (bkC y.b y.a y.c).toArray.size = 10 := by rw [List.size_toArray, bkC_len]
  have hy1 := bkC_one y.b y.a y.c
  have hyat := y.hat
  have hybl : ∀ {w' : World} {L0 L1 : Hp}, Mem w [] (L0 ++ (y.bl ++ L1)) w' → Has y.bl w' := fun hm p hp => hm.has p (List.mem_append_right _ (List.mem_append_left _ hp))
  generalize bkC y.b y.a y.c = Y at r8 hy10 hy1 hId hSy ⊢
  generalize idB blk0 = D at hi8 hin hId
  have hDs : (u8s D).toArray.size = 8 := by rw [List.size_toArray, u8s_len, hi8]
  refine x_ ?_
  refine Run.nw nal ?_
  intro b4
  refine x_ ?_
  refine Run.op1 (osa (arr := ti27.zero.cells) Y.toArray hy1 (hs := by exact hy10)) (fun _ => ?_)
  refine x_ ?_
  refine Run.op1 (OpTo.cv Tryz.func11 (fun w' hm => hId w' (hyat w' (hybl (L0 := [_]) hm)) (hK.fr hm.fr (by simp)))) (fun _ => ?_)
  refine x_ ?_
  refine Run.nw nal ?_
  intro b6
  refine x_ ?_
  refine Run.op1 (osa (arr := ti23.zero.cells) (u8s D).toArray (u8s_one D) (hs := by rw [List.size_toArray, u8s_len, hi8]; rfl)) (fun _ => ?_)
  refine x_ ?_
  refine Run.opG (Wanted.guard rfl rfl rfl rfl) (OpTo.cv Tryz.func15 (fun w' hm => hSy w' (hA hm (List.mem_cons_of_mem _ (List.mem_cons_of_mem _ (List.mem_append_right _ (List.mem_append_right _ (List.mem_cons_of_mem _ List.mem_cons_self)))))) (hyat w' (hybl (L0 := [_, _]) hm)))) (fun _ => ?_)
  refine x_ ?_
  refine Run.a (Val.eq (Val.neU (m := 8) (a := D) (b := List.replicate 8 0) tabOk rfl rfl rfl (by kernel_rfl) (by kernel_rfl) rfl rfl hi8 rfl) (show _ = Value.bool true from by rw [decide_eq_false hin]; rfl)) ?_
  refine x_ ?_
  refine Run.a Val.feql ?_
  rw [show (Ieee.double.order blk0.wk 4613937818241073152 == some .eq) = true from by decide +kernel]
  refine x_ ?_
  exact RQ.ret1 rfl (Res.tmp rfl) fun w' hm => ⟨rfl, hm.fr⟩
end Go.Proofs.YtfoeakgnkfcbjaaGreatDoor
end
section
/- From a walk to what the row asks: the arguments read as before, nothing old has turned. -/
namespace Go.Vc
open Go Go.ChangeShapes Go.WideShapes Go.ChangeAt Go.RowKit

/-- No slice's elements are nothing at all. -/
def slicesFull (P : Program) : Bool := (List.range P.types.size).all fun t => match P.underlying t with
  | some (.slice e) => Nat.blt 0 (P.cellsOf e)
  | _ => true
theorem slicesFull_spec {P : Program} (h : slicesFull P = true) {t e : TypeId} (ht : t < P.types.size) (hu : P.underlying t = some (.slice e)) : 0 < P.cellsOf e := by
  have := List.all_eq_true.1 h t (List.mem_range.2 ht)
  simp only [hu] at this
  simpa [Nat.blt_eq] using this

section
variable {H : Type} {enc : TypeId × Value → H} {P : Program}

theorem sameAt_below {w w' : World} (h : Below w.heap.size w w') {p : MemPlace} (hp : p.block < w.heap.size) : w.sameAt w' p := by
  cases p with
  | cell b o => 
    have := h.block b hp
    simp [World.sameAt, World.cell?, this]
  | map b =>
    have := h.block b hp
    simp [World.sameAt, this]

theorem trodAll_stay (hl : laidOutB P = true) (hm : mapsRowed P = true) (hsl : slicesFull P = true) {w w' : World} (hb : Below w.heap.size w w') {sp : Nat → Bool} :
    ∀ (ts : List TypeId) (vs : List Value) (ds : List (DataW H)) (ps : List MemPlace), (∀ t ∈ ts, t < P.types.size) → DataW.TrodAll enc P w 0 (fun _ => true) true ts vs ds ps →
      (∀ p ∈ ps, p.block < w.heap.size) → (∀ p ∈ ps, sp p.block = true) → DataW.TrodAll enc P w' 0 sp true ts vs ds ps
  | [], vs, ds, ps, _, h, _, _ => by
    obtain ⟨rfl, rfl, rfl⟩ := trodAll_nil h
    exact trodAll_mk0
  | t :: ts, vs, ds, ps, ht, h, hlt, hs => by
    obtain ⟨v, vs', d, ds', p, q, rfl, rfl, rfl, ⟨n, h1⟩, h2⟩ := trodAll_cons h
    refine ⟨p, q, ⟨n, ?_⟩, trodAll_stay hl hm hsl hb ts vs' ds' q (fun t ht' => ht t (List.mem_cons_of_mem _ ht')) h2 (fun x hx => hlt x (List.mem_append_right _ hx)) (fun x hx => hs x (List.mem_append_right _ hx)), rfl⟩
    exact DataW.trod_stays (kids_rows hl hm) (fun h1 h2 => slicesFull_spec hsl h1 h2) (fun h => by cases h) (ht t List.mem_cons_self) h1
      (fun x hx => sameAt_below hb (hlt x (List.mem_append_left _ hx))) (fun x hx => hs x (List.mem_append_left _ hx))

/-- What a law's row asks behind a call that returns true and turns nothing old. -/
theorem post_true {f : Func} {s : ChangeSpec} {apart fresh handsOn : Bool} {W W' : World} {args : Array Value} {ds gs : List (DataW H)} {before : List MemPlace} {tb : TypeId}
    (hl : laidOutB P = true) (hm : mapsRowed P = true) (hsl : slicesFull P = true) (hts : f.params.toList.all (fun t => Nat.blt t P.types.size) = true) (hrt : f.resultTypes = #[tb]) (hub : P.underlying tb = some .bool)
    (hW : DataW.Whole enc P f.params.toList s.vars apart W args.toList ds gs before) (hv : s.vars = []) (hsr : (s.fn H ds).results = [.lit (.bool true)]) (hsa : (s.fn H ds).args = ds) (hsv : (s.fn H ds).vars = [])
    (hf : Fr [] W W') : s.post enc P f apart fresh handsOn false W args (.bool true) W' := by
  have hb := hf.below
  have hlt := hW.lt
  have hW' := hW
  obtain ⟨p, q, hA, hV, rfl, hz, hn⟩ := hW'
  rw [hv] at hV
  obtain ⟨rfl, rfl⟩ := trodVars_none hV
  have hts' : ∀ t ∈ f.params.toList, t < P.types.size := fun t ht => by simpa [Nat.blt_eq] using List.all_eq_true.1 hts t ht
  have hag : ∀ sp : Nat → Bool, (∀ x ∈ p ++ [], sp x.block = true) → DataW.TrodAll enc P W' 0 sp true f.params.toList args.toList ds p := fun sp hsp =>
    trodAll_stay hl hm hsl hb _ _ _ _ hts' hA (fun x hx => hlt x (List.mem_append_left _ hx)) (fun x hx => hsp x (List.mem_append_left _ hx))
  have hres : ∀ (b : Nat) (sp : Nat → Bool) (hd : Bool), DataW.TrodAll enc P W' b sp hd f.resultTypes.toList ((Value.bool true).resultList f.resultTypes.size) [.lit (.bool true)] [] := fun b sp hd => by
    rw [hrt]
    exact trodAll_cons_mk (shut_bool hub _) trodAll_mk0
  have hold : ∀ x ∈ p ++ [], (fun b => decide (b < W.heap.size)) x.block = true := fun x hx => by simpa using hlt x hx
  refine ⟨ds, [], p ++ [], [], p, [], hW, ?_, ?_, ?_, World.keptBut_mono (fun x hx => ⟨hx, ?_⟩) (hb.frame (· ∈ p ++ [])), fun h => by cases h⟩
  · rw [List.append_nil, hsr]; exact hres _ _ _
  · rw [List.append_nil, hsa]; exact hag _ hold
  · rw [List.append_nil, hsv, hv]; exact rfl
  · simpa using hx
end
end Go.Vc

/- Arguments that are bytes in arrays; what is laid. -/
namespace Go.Vc
open Go Go.Sha Go.ChangeShapes Go.WideShapes Go.ChangeAt Go.RowKit

section
variable {H : Type} {enc : TypeId × Value → H} {P : Program}
theorem mapM_all {α β : Type} {f : α → Option β} : ∀ {l : List α} {r : List β}, l.mapM f = some r → ∀ x ∈ l, ∃ y, f x = some y
  | [], _, _, _, h => by cases h
  | a :: l, r, h, x, hx => by
    rw [List.mapM_cons] at h
    simp only [bind, Option.bind_eq_some_iff, pure, Option.some.injEq] at h
    obtain ⟨y, hy, ys, hys, _⟩ := h
    rcases List.mem_cons.1 hx with rfl | hx
    · exact ⟨y, hy⟩
    · exact mapM_all hys x hx
theorem params_plain {fn : Func} (h : fn.params.all (fun t => !P.wantsStandIn t) = true) (j : Nat) (t : TypeId) (ht : fn.params[j]? = some t) : P.wantsStandIn t = false := by
  have := Array.all_eq_true_iff_forall_mem.1 h t (Array.mem_of_getElem? ht)
  simpa using this
end
end Go.Vc

/- Arguments that are slices of bytes, slices of such, strings. -/
namespace Go.Vc
open Go Go.Sha Go.ChangeShapes Go.WideShapes Go.ChangeAt Go.RowKit Go.Deep
section
variable {H : Type} {enc : TypeId × Value → H} {P : Program}

end
end Go.Vc

/- What is laid: hash.steps; closed facts of the program. -/
namespace Go.Proofs.YtfoeakgnkfcbjaaGreatDoor
open Go Go.Vc Go.Sha Go.ChangeShapes Go.WideShapes Go.ChangeAt Go.RowKit

theorem kLaidOut : laidOutB Tryz.prog = true := by kernel_rfl
theorem kMaps : mapsRowed Tryz.prog = true := by kernel_rfl
theorem kSlices : slicesFull Tryz.prog = true := by kernel_rfl
theorem kOwn : ownKnob Tryz.prog.godebug = Option.none := by kernel_rfl
theorem kTab : Tryz.prog.globalNamed "drawbridge/hash.steps" = some 1 := by kernel_rfl
theorem kTabType : (Tryz.prog.globals[1]?).map (·.type) = some 111 := by kernel_rfl
theorem kCellsT : Tryz.prog.cellsOf 111 = 64 := by kernel_rfl
theorem kCellsE : Tryz.prog.cellsOf 109 = 1 := by kernel_rfl
/-- What the row's list gives. -/
theorem laid_of {W : World} (h : laidMet Tryz.prog [("drawbridge/hash.steps", Rows.laid_drawbridge_hash_steps)] W) : Laid W := fun i hi => by
  have h1 : Lib.TabIs Tryz.prog W "drawbridge/hash.steps" .u32 (K.map Int.ofNat) :=
    Lib.tabIs_of_head (rest := []) kTab kTabType Tryz.underlying111 Tryz.underlying109 kCellsE kCellsT h
  have := h1.cell kTab i (by rw [List.length_map, K_len]; exact hi)
  rw [this]
  have hk : i < K.length := by rw [K_len]; exact hi
  simp [List.getD_eq_getElem?_getD, hk]

/-- A world for the witness: the table holds what its initialiser lays. -/
noncomputable def laidWorld (os : Os) : World :=
  { World.holding Tryz.prog os ⟨#[], #[], []⟩ with heap := (World.holding Tryz.prog os ⟨#[], #[], []⟩).heap.modify 1 fun
      | .cells _ t frozen => .cells (u32s K).toArray t frozen
      | o => o }
end Go.Proofs.YtfoeakgnkfcbjaaGreatDoor
end
section
/- Arguments that are slices of hashes, arrays of numbers. -/
namespace Go.Vc
open Go Go.Sha Go.ChangeShapes Go.WideShapes Go.ChangeAt Go.RowKit Go.Deep
section
variable {H : Type} {enc : TypeId × Value → H} {P : Program}
end
end Go.Vc

/- Arguments that are slices of ints, of bools, and parameters. -/
namespace Go.Vc
open Go Go.Sha Go.ChangeShapes Go.WideShapes Go.ChangeAt Go.RowKit Go.Deep
section
variable {H : Type} {enc : TypeId × Value → H} {P : Program}
end
end Go.Vc
namespace Go.Proofs.YtfoeakgnkfcbjaaGreatDoor
open Go Go.Vc
end Go.Proofs.YtfoeakgnkfcbjaaGreatDoor
end
section
/- merkle's awake; MerkleMakes, MerkleChecks. -/
namespace Go.Sha
theorem rootOf_small {l : List (List Nat)} (h : l.length ≤ 65536) : rootOf l = mroot l := by unfold rootOf; rw [if_pos h]
/-- A piece of a row that has more behind. -/
theorem pc_rowR {c : Nat} {l : List Nat} {rest : List Go.Value} (i : Nat) : ∀ j u, (u8s (pc c l i))[j]? = some u → (u8s l ++ rest).toArray[i * c + j]? = some u := by
  intro j u hj
  have h := pc_row i j u hj
  rw [List.getElem?_toArray] at h
  rw [List.getElem?_toArray, List.getElem?_append_left (List.getElem?_eq_some_iff.1 h).1]
  exact h
theorem provN_HL (l : List (List Nat)) (z : Int) : HL (provN l z) := by
  unfold provN
  split
  · exact mprove_mem (fun h => h.length = 8 ∧ ∀ x ∈ h, x < 256) (fun l => ⟨mroot_len l, mroot_lt l⟩) _ l _ rfl
  · intro h hh; cases hh
theorem provN_le (l : List (List Nat)) (z : Int) : (provN l z).length ≤ l.length := by
  unfold provN
  split
  · rename_i h
    have h1 := of_decide_eq_true h
    rw [mprove_len _ l _ rfl (by omega)]
    exact turnsN_le _ _ _ rfl
  · exact Nat.zero_le _
end Go.Sha
namespace Go.Proofs.YtfoeakgnkfcbjaaGreatDoor
open Go Go.Vc Go.Sha

/-- A hash of a row of the call's own. -/
theorem Own.hash {P : Program} {n : Nat} {w0 : World} {S0 : List Nat} {E : Env} {L : Hp} {e : TypeId} {l : List (List Nat)} {b : Nat} {rest : List Value} {k : Nat} {x : List Nat} (hH : HL l) (hx : l[k]? = some x)
    {o : Oper} {T : List (Nat × TI)} {t : Nat} {ti : TI} (hT : TabOk P T) {y : Operand} {off : Nat} {fz : Nat × Nat} (ho : o.op = .load t y) (ht : tiGet T t = some ti)
    (hy : lk E y = some (.pointer (some ⟨b, off, none⟩))) (ha : TypeDesc.agg ti.desc = true) (hm : (b, .cells (u8s l.flatten ++ rest).toArray e fz) ∈ L) (hoff : off = k * 8) (hs : ti.size = 8) : Val P n w0 S0 E L o (.agg (u8s x).toArray) := by
  subst hoff
  have hp := pc_flat hH hx
  have hx8 := hH x (List.mem_of_getElem? hx)
  have := @pc_rowR 8 l.flatten rest k
  rw [hp] at this
  exact Val.loadR hT ho ht hy ha (by rw [u8s_len, hx8.1, hs]) (Rd.row hm this)

end Go.Proofs.YtfoeakgnkfcbjaaGreatDoor
end
section
/- block: BlockRoots. -/
namespace Go.Proofs.YtfoeakgnkfcbjaaGreatDoor
attribute [local irreducible] Go.Vc.Run Go.Vc.RC Go.Vc.RQ Go.Vc.DR Go.Vc.DOp Go.Vc.Knows Go.Vc.At
set_option maxHeartbeats 400000
set_option maxRecDepth 10000
open Go Go.Vc Go.Sha
set_option maxRecDepth 10000 in set_option maxHeartbeats 4000000 in
theorem BlockRoots_calls (t : BkV) (a : Option Addr) (c : Nat) (w : World) (ht : BkAt w t a c) (hK : Laid w) : Gives Tryz.prog 8 [.agg (bkC t a c).toArray] (.bool true) w := by
  refine enter Tryz.func8 rfl (Mem.nil w []) rfl ?_
  have ca : Knows Tryz.prog w 9 [] (.bool true) := Knows.mk Tryz.func9 (fun w' hf => awake17_calls w' (hK.fr hf (by simp)))
  have cf : Knows Tryz.prog w 10 [.agg (bkC t a c).toArray] (.bool (decide (FewK t))) := Knows.mk Tryz.func10 (fun w' hf => FewBk_calls t a c w' (ht.fr hf))
  have hFs : (bkC t a c).toArray.size = 10 := by rw [List.size_toArray, bkC_len]
  by_cases hf : FewK t
  rotate_left
  · rw [decide_eq_false hf] at cf
    generalize bkC t a c = F at hFs cf ⊢
    refine x_ ?_
    refine Run.nw nbx ?_
    intro b1
    refine x_ ?_
    exact RQ.ret1 rfl (Res.tmp rfl) fun w' hm => ⟨rfl, hm.fr⟩
  rw [decide_eq_true hf] at cf
  have hln := hf.ln
  have kM : Knows Tryz.prog w 21 [.agg (bkC t a c).toArray] (.bool (decide (MayB t))) := Knows.mk Tryz.func21 (fun w' hf => RMayB_calls t hln a c w' (ht.fr hf))
  have kR : Knows Tryz.prog w 13 [.agg (bkC t a c).toArray] (.agg (u8s (rootB t)).toArray) := Knows.mk Tryz.func13 (fun w' hf => RootBk_calls t hln a c w' (ht.fr hf) (hK.fr hf (by simp)))
  have r9 := bk_r9 t a c
  by_cases hmy : MayB t
  rotate_left
  · rw [decide_eq_false hmy] at kM
    generalize bkC t a c = F at hFs cf kM ⊢
    refine x_ ?_
    refine Run.nw nbx ?_
    intro b1
    refine x_ ?_
    exact RQ.ret1 rfl (Res.tmp rfl) fun w' hm => ⟨rfl, hm.fr⟩
  rw [decide_eq_true hmy] at kM
  have h32 := hmy.2.1
  have hHL := idL_HL t.ts
  have hRR : rootB t = rootOf (idL t.ts) := if_pos hmy
  rw [hRR] at kR
  have hmem := ht.s
  obtain ⟨N, hN⟩ : ∃ N, N = t.ts.length := ⟨_, rfl⟩
  have hil : (idL t.ts).length = N := by unfold idL; rw [List.length_map, hN]
  have hRt := fun v w' h => ref_Root_calls _ (idL t.ts) rfl hHL v w' h
  have hrl := rootOf_len (idL t.ts)
  have hrm : rootOf (idL t.ts) = mroot (idL t.ts) := rootOf_small (by omega)
  rw [← hN] at r9 hmem
  generalize bkC t a c = F at r9 hFs cf kM kR ⊢
  refine x_ ?_
  refine Run.nw nbx ?_
  intro b1
  refine x_ ?_
  refine RC.up N (D := (Option Addr × Nat) × Hp) (fun k d => Own 23 8 (.slice d.1.1 k d.1.2) k (u8s (idL (t.ts.take k)).flatten) d.2) (fun k d => [(4, .int .i64 k), (3, .slice d.1.1 k d.1.2), (1, .pointer (some ⟨b1, 0, none⟩))]) (fun _ d => d.2 ++ [(b1, Obj.cells F.toArray 27 (0, 0))]) 0 ((none, 0), []) (Nat.zero_le _) Own.nil ⟨rfl, rfl, rfl, trivial⟩ (List.Sublist.refl _) ?_
  rintro k ⟨⟨wa, wc⟩, wl⟩ hk hown
  dsimp only at hown ⊢
  by_cases hk' : k < N
  · obtain ⟨q, hx⟩ : ∃ q, t.ts[k]? = some q := ⟨_, List.getElem?_eq_getElem (by omega)⟩
    obtain ⟨ad, c', hv', hc', hcl, hr⟩ := hmem.pos (by omega)
    cases hv'
    have hqm := List.mem_of_getElem? hx
    have hqa := ht.t q hqm
    have hqln := hln q hqm
    have q0 : At w (ad.add (k * 170)) (txC q.1 q.2) := At.mk fun j u hj => by rw [add_add]; exact hr _ u (rws_at txR_len hx j u hj)
    have hT170 : (txC q.1 q.2).length = 170 := txC_len _ _
    have hT1 := txC_one q.1 q.2
    have kI : Knows Tryz.prog w 26 [.agg (txC q.1 q.2).toArray] (.tuple #[.agg (u8s (idT q)).toArray, .bool (decide (TxMay q.1))]) := Knows.mk Tryz.func26 (fun w' hf => RTxID_calls q.1 q.2 hqln w' (hqa.fr hf))
    rw [decide_eq_true (hmy.2.2 k q hx).1] at kI
    generalize txC q.1 q.2 = T at q0 hT170 hT1 kI
    have hTs : T.toArray.size = 170 := by rw [List.size_toArray, hT170]
    have hid := idT_ok q
    have his := idL_succ hx
    generalize idT q = I at hid his kI
    have hIs : (u8s I).toArray.size = 8 := by rw [List.size_toArray, u8s_len, hid.1]
    refine x_ ?_
    refine Run.nw nal ?_
    intro b6
    refine x_ ?_
    refine Run.op1 (osa (arr := ti23.zero.cells) (e := 23) (L' := wl ++ [(b1, Obj.cells F.toArray 27 (0, 0))]) (u8s I).toArray (u8s_one _) (hL := (perm_of fun f => by (simp only [List.map_append, List.map_cons, List.map_nil, List.sum_append, List.sum_cons, List.sum_nil] <;> omega))) (hs := by exact hIs)) (fun _ => ?_)
    refine x_ ?_
    refine Run.nw (nbsl (parts := [(0, .tmp 40)]) (u8s I).toArray (fillS_1 8 _ (u8s I) (by rw [u8s_len, hid.1]))) ?_
    intro b26
    refine Run.op1 (OpTo.append (L1 := (b26, Obj.cells (u8s I).toArray 23 (0, 0)) :: ((b6, Obj.cells (u8s I).toArray 23 (0, 0)) :: [(b1, Obj.cells F.toArray 27 (0, 0))])) tabOk hown (Src.at ⟨b26, 0, none⟩ 1 1 (u8s I) (by rw [u8s_len, hid.1]; rfl) (Rd.rowAll m0)) rfl rfl rfl rfl rfl rfl rfl rfl rfl (perm_of fun f => by (simp only [List.map_append, List.map_cons, List.map_nil, List.sum_append, List.sum_cons, List.sum_nil] <;> omega)) (u8s_one _) (by unfold maxLen; omega) (by simp only [ti23]; omega)) ?_
    rintro ⟨⟨v27, l27⟩, h27⟩
    dsimp only at h27 ⊢
    obtain ⟨wa2, wc2, rfl, hwc2⟩ := h27.shape
    refine x_ ?_
    exact RQ.upP (k + 1) ((wa2, wc2), l27) (Nat.lt_succ_self _) hk' (by dsimp only; rw [his, List.flatten_append, u8s_app, show ([I] : List (List Nat)).flatten = I from List.append_nil I]; exact h27) ⟨rfl, rfl, rfl, trivial⟩ (L1 := (l27 ++ [(b1, Obj.cells F.toArray 27 (0, 0))]) ++ [(b26, Obj.cells (u8s I).toArray 23 (0, 0)), (b6, Obj.cells (u8s I).toArray 23 (0, 0))]) (perm_of fun f => by (simp only [List.map_append, List.map_cons, List.map_nil, List.sum_append, List.sum_cons, List.sum_nil] <;> omega)) (List.sublist_append_left _ _)
  obtain rfl : k = N := by omega
  clear hk hk'
  rw [List.take_of_length_le (by omega)] at hown
  obtain ⟨bp, cap, rest, hv, rfl, g1, g2, g3, g4⟩ := hown.pos (by omega)
  cases hv
  have hsrc : ∀ w', Has [(bp, Obj.cells (u8s (idL t.ts).flatten ++ rest).toArray 23 (0, 0))] w' → SrcW w' 8 (.slice (some ⟨bp, 0, none⟩) k wc) (idL t.ts).length (u8s (idL t.ts).flatten) := fun w' hw => by rw [hil]; exact hown.srcW hw
  generalize hl : idL t.ts = l at *
  have hRs : (u8s (rootOf l)).toArray.size = 8 := by rw [List.size_toArray, u8s_len, hrl]
  refine x_ ?_
  refine Run.nw nal ?_
  intro b7
  refine x_ ?_
  refine Run.op1 (osa (arr := ti23.zero.cells) (e := 23) (u8s (rootOf l)).toArray (u8s_one _) (hs := by exact hRs)) (fun _ => ?_)
  refine x_ ?_
  refine RC.up k (D := Unit) (fun _ _ => True) (fun i _ => [(8, .int .i64 i), (7, .pointer (some ⟨b7, 0, none⟩)), (3, .slice (some ⟨bp, 0, none⟩) k wc), (1, .pointer (some ⟨b1, 0, none⟩))]) (fun _ _ => [(b7, Obj.cells (u8s (rootOf l)).toArray 23 (0, 0)), (bp, Obj.cells (u8s l.flatten ++ rest).toArray 23 (0, 0)), (b1, Obj.cells F.toArray 27 (0, 0))]) 0 () (Nat.zero_le _) trivial ⟨rfl, rfl, rfl, rfl, trivial⟩ (List.Sublist.refl _) ?_
  intro i _ hi _
  by_cases hi' : i < k
  · obtain ⟨x, hx⟩ : ∃ x, l[i]? = some x := ⟨_, List.getElem?_eq_getElem (by omega)⟩
    have hx8 := hHL x (List.mem_of_getElem? hx)
    have hi2 : i < l.length := by omega
    obtain ⟨f1, f2⟩ := prov_good (l := l) (i := i) hi2 (by omega)
    have hP := Prove_calls _ l rfl hHL (i : Int)
    rw [f1, f2] at hP
    have hpH : HL (mprove l i) := by rw [← f1]; exact provN_HL l _
    have hple : (mprove l i).length ≤ l.length := by rw [← f1]; exact provN_le l _
    have hlead : checkM (rootOf l) x (i : Int) (k : Int) (mprove l i) = true := by rw [← hil, chk_good hi2 (by omega), hrm]; exact mprove_leads l i x hx
    have hC1 := fun v w' hs' => Check_calls (rootOf l) x (mprove l i) hrl hx8.1 hx8.2 hpH (i : Int) (k : Int) v w' hs' (by omega)
    rw [hlead] at hC1
    have hxs : (u8s x).toArray.size = 8 := by rw [List.size_toArray, u8s_len, hx8.1]
    generalize mprove l i = ps at *
    refine x_ ?_
    refine Run.op rfl (OpTo.callMk2 Tryz.func27 rfl rfl rfl rfl rfl rfl (fun w' hm => hP _ w' (hsrc w' (fun p hp => hm.has p (by rw [List.mem_singleton.1 hp]; exact List.mem_cons_of_mem _ List.mem_cons_self))) (hK.fr hm.fr (by simp)))) ?_
    rintro ⟨⟨v7, l7⟩, h7⟩
    dsimp only at h7 ⊢
    refine x_ ?_
    (repeat refine RC.seq ?_); refine RC.drawS mixed (N := 15) rfl ?_
    refine dy 0 ?_
    refine dy 1 ?_
    refine dy 2 ?_
    refine DR.t 3 rfl (vla (arr := (u8s (rootOf l)).toArray) (hv := hRs) (hm := (by repeat (first | exact List.mem_cons_self | apply List.mem_cons_of_mem | apply List.mem_append_right)))) ?_
    refine dy 4 ?_
    refine dy 5 ?_
    refine DR.t 6 rfl (vix i hi' ⟨bp, i * 8, none⟩) ?_
    refine DR.t 7 rfl (Own.hash (k := i) (x := x) hHL hx tabOk rfl rfl rfl rfl (by repeat (first | exact List.mem_cons_self | apply List.mem_cons_of_mem | apply List.mem_append_right)) rfl rfl) ?_
    refine dy 8 ?_
    refine dy 9 ?_
    refine dy 10 ?_
    refine dy 11 ?_
    refine DR.c 12 (DOp.op1 rfl (OpTo.cv Tryz.func28 (fun w' hm => hC1 v7 w' (h7.srcW (fun q hq => hm.has q (List.mem_append_left _ hq))) (hK.fr hm.fr (by simp)))) (fun _ => ?_))
    refine dy 13 ?_
    refine dy 14 ?_
    refine DR.done (by kernel_rfl) ?_
    refine x_ ?_
    exact RQ.up (i + 1) () (Nat.lt_succ_self _) hi' trivial ⟨rfl, rfl, rfl, rfl, trivial⟩ (List.sublist_append_right _ _)
  obtain rfl : i = k := by omega
  refine x_ ?_
  (repeat refine RC.seq ?_); refine RC.drawS mixed (N := 5) rfl ?_
  refine DR.t 0 rfl (vla (arr := (u8s (rootOf l)).toArray) (hv := hRs) (hm := (by repeat (first | exact List.mem_cons_self | apply List.mem_cons_of_mem | apply List.mem_append_right)))) ?_
  refine dy 1 ?_
  refine DR.c 2 (DOp.op1 rfl (OpTo.cv Tryz.func29 (fun w' hm => hRt _ w' (hsrc w' (fun p hp => hm.has p (by rw [List.mem_singleton.1 hp]; exact List.mem_cons_of_mem _ List.mem_cons_self))))) (fun _ => ?_))
  refine DR.t 3 rfl (veu 8 (rootOf l) hrl (by kernel_rfl)) ?_
  refine dy 4 ?_
  refine DR.done (by kernel_rfl) ?_
  refine x_ ?_
  exact RQ.ret1 rfl (Res.tmp rfl) fun w' hm => ⟨rfl, hm.fr⟩
end Go.Proofs.YtfoeakgnkfcbjaaGreatDoor
end
section
/- Arguments that are slices of records of numbers. -/
namespace Go.Vc
open Go Go.Sha Go.ChangeShapes Go.WideShapes Go.ChangeAt Go.RowKit Go.Deep
def Ok1 (v : Value) : Prop := ∀ k z, v = .int k z → (Lit.int k z).wf = true
section
variable {H : Type} {enc : TypeId × Value → H} {P : Program}
theorem flat_trod (hl : laidOutB P = true) (hm : mapsRowed P = true) {w : World} {base : Nat} {sp : Nat → Bool} {held : Bool} : ∀ (d n : Nat) (t : TypeId) (ks : List IntKind) (cs : List Value) (x : DataW H × List MemPlace),
    t < P.types.size → kindsOf P d t = some ks → ks.length = P.cellsOf t → DataW.trod enc P w base sp held n t cs = some x → HasK ks cs ∧ ∀ v ∈ cs, Ok1 v
  | 0, _, _, _, _, _, _, hk, _, _ => by cases hk
  | d + 1, n, t, ks, cs, x, ht, hk, hc, h => by
    unfold kindsOf at hk
    cases hu : P.underlying t with
    | none => rw [hu] at hk; cases hk
    | some kd =>
      rw [hu] at hk
      cases kd with
      | int k =>
        cases hk
        cases n with
        | zero => simp [DataW.trod] at h
        | succ n =>
          obtain ⟨z, hcs, _, hw⟩ := DataW.trod_int hu h
          rw [hcs]
          refine ⟨.cons k z .nil, fun v hv k' z' e => ?_⟩
          rw [List.mem_singleton] at hv
          subst hv
          cases e
          exact hw
      | array m e =>
        simp only at hk
        cases hke : kindsOf P d e with
        | none => rw [hke] at hk; cases hk
        | some ke =>
          rw [hke] at hk
          simp only at hk
          cases hb : Nat.beq ke.length (P.cellsOf e) with
          | false => rw [hb] at hk; cases hk
          | true =>
            rw [hb] at hk
            simp only [cond_true, Option.some.injEq] at hk
            have hce : ke.length = P.cellsOf e := Nat.eq_of_beq_eq_true hb
            have K := (kids_rows hl hm).array ht hu
            cases n with
            | zero => simp [DataW.trod] at h
            | succ n =>
              unfold DataW.trod at h
              simp only [hu] at h
              split at h
              · rename_i hlen
                simp only [Option.map_eq_some_iff] at h
                obtain ⟨xs, hx, rfl⟩ := h
                have hpart : ∀ i, i < m → HasK ke ((cs.drop (i * P.cellsOf e)).take (P.cellsOf e)) ∧ ∀ v ∈ (cs.drop (i * P.cellsOf e)).take (P.cellsOf e), Ok1 v := fun i hi => by
                  obtain ⟨y, hy⟩ := mapM_all hx i (List.mem_range.2 hi)
                  exact flat_trod hl hm d n e ke _ y K.1 hke hce hy
                rw [K.2] at hlen
                have key : ∀ j, j ≤ m → HasK (List.replicate j ke).flatten (cs.drop ((m - j) * P.cellsOf e)) ∧ ∀ v ∈ cs.drop ((m - j) * P.cellsOf e), Ok1 v := by
                  intro j
                  induction j with
                  | zero =>
                    intro _
                    rw [Nat.sub_zero, List.drop_of_length_le (by omega)]
                    exact ⟨.nil, fun v hv => by cases hv⟩
                  | succ j ih =>
                    intro hj
                    obtain ⟨i1, i2⟩ := ih (by omega)
                    obtain ⟨p1, p2⟩ := hpart (m - (j + 1)) (by omega)
                    have e1 : cs.drop ((m - (j + 1)) * P.cellsOf e) = (cs.drop ((m - (j + 1)) * P.cellsOf e)).take (P.cellsOf e) ++ cs.drop ((m - j) * P.cellsOf e) := by
                      conv => lhs; rw [← List.take_append_drop (P.cellsOf e) (cs.drop ((m - (j + 1)) * P.cellsOf e)), List.drop_drop]
                      rw [show m - j = m - (j + 1) + 1 by omega, Nat.add_mul (m - (j + 1)) 1, Nat.one_mul]
                    rw [e1, List.replicate_succ, List.flatten_cons]
                    refine ⟨p1.append i1, fun v hv => ?_⟩
                    rcases List.mem_append.1 hv with hv | hv
                    · exact p2 v hv
                    · exact i2 v hv
                obtain ⟨k1, k2⟩ := key m (Nat.le_refl _)
                rw [Nat.sub_self, Nat.zero_mul, List.drop_zero] at k1 k2
                rw [← hk]
                exact ⟨k1, k2⟩
              · cases h
      | struct fs =>
        simp only at hk
        cases hst : P.stoodInHeld t with
        | true => rw [hst] at hk; cases hk
        | false =>
          rw [hst] at hk
          simp only [cond_false] at hk
          obtain ⟨xs, n', _, _, hlen, hxl, hf⟩ := DataW.trod_struct hu h
          have K := (kids_rows hl hm).struct ht hu
          have key : ∀ (gs : List Field) (off : Nat) (kg : List IntKind), (∀ f ∈ gs, f.type < P.types.size ∧ ∃ y, DataW.trod enc P w base sp held n' f.type ((cs.drop f.offset).take (P.cellsOf f.type)) = some y) → kindsF P (kindsOf P d) gs off = some kg →
              HasK kg ((cs.drop off).take kg.length) ∧ ∀ v ∈ (cs.drop off).take kg.length, Ok1 v := by
            intro gs
            induction gs with
            | nil =>
              intro off kg _ hg
              cases hg
              exact ⟨by simpa using HasK.nil, fun v hv => by simp at hv⟩
            | cons f gs ih =>
              intro off kg hfs hg
              unfold kindsF at hg
              cases hkf : kindsOf P d f.type with
              | none => rw [hkf] at hg; cases hg
              | some kf =>
                rw [hkf] at hg
                simp only at hg
                cases hb : (f.name != "_" && (Nat.beq f.offset off && Nat.beq kf.length (P.cellsOf f.type))) with
                | false => rw [hb] at hg; cases hg
                | true =>
                  rw [hb] at hg
                  simp only [cond_true, Option.map_eq_some_iff] at hg
                  obtain ⟨kr, hr, rfl⟩ := hg
                  simp only [Bool.and_eq_true] at hb
                  have ho : f.offset = off := Nat.eq_of_beq_eq_true hb.2.1
                  have hcl : kf.length = P.cellsOf f.type := Nat.eq_of_beq_eq_true hb.2.2
                  obtain ⟨ht1, y, hy⟩ := hfs f List.mem_cons_self
                  obtain ⟨p1, p2⟩ := flat_trod hl hm d n' f.type kf _ y ht1 hkf hcl hy
                  obtain ⟨i1, i2⟩ := ih (off + kf.length) kr (fun g hg => hfs g (List.mem_cons_of_mem _ hg)) hr
                  rw [ho, ← hcl] at p1 p2
                  have e1 : (cs.drop off).take (kf ++ kr).length = (cs.drop off).take kf.length ++ (cs.drop (off + kf.length)).take kr.length := by
                    rw [List.length_append, List.take_add, List.drop_drop]
                  rw [e1]
                  refine ⟨p1.append i1, fun v hv => ?_⟩
                  rcases List.mem_append.1 hv with hv | hv
                  · exact p2 v hv
                  · exact i2 v hv
          obtain ⟨k1, k2⟩ := key fs.toList 0 ks (fun f hfm => by
            refine ⟨K.1 f hfm, ?_⟩
            obtain ⟨i, hi, hfi⟩ := List.mem_iff_getElem.1 hfm
            have h1 := hf i f (by rw [← Array.getElem?_toList, List.getElem?_eq_getElem hi, hfi])
            have h2 : i < xs.length := by rw [hxl]; simpa using hi
            exact ⟨xs[i], h1.trans (List.getElem?_eq_getElem h2)⟩) hk
          rw [List.drop_zero, List.take_of_length_le (by omega)] at k1 k2
          exact ⟨k1, k2⟩
      | _ => cases hk
end
theorem u8list_of : ∀ {n : Nat} {cs : List Value}, HasK (List.replicate n .u8) cs → (∀ v ∈ cs, Ok1 v) → ∃ l : List Nat, cs = u8s l ∧ l.length = n ∧ ∀ x ∈ l, x < 256
  | 0, _, .nil, _ => ⟨[], rfl, rfl, fun x hx => by cases hx⟩
  | n + 1, _, .cons _ z h, ho => by
    obtain ⟨l, rfl, hl, hb⟩ := u8list_of h (fun v hv => ho v (List.mem_cons_of_mem _ hv))
    have := bounds_u8 (ho _ List.mem_cons_self .u8 z rfl)
    refine ⟨z.toNat :: l, ?_, by simp [hl], fun x hx => ?_⟩
    · show _ = Value.int .u8 (z.toNat : Int) :: u8s l
      rw [Int.toNat_of_nonneg this.1]
    · rcases List.mem_cons.1 hx with rfl | hx
      · omega
      · exact hb x hx
end Go.Vc
end
