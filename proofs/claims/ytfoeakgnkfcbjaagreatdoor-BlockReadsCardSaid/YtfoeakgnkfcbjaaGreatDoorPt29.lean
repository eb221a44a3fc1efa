/- Lemmas. -/
import Derived.Test.YtfoeakgnkfcbjaaGreatDoorPt28
set_option linter.unusedSimpArgs false
set_option linter.unusedVariables false
section
/- block: awake. -/
namespace Go.Proofs.YtfoeakgnkfcbjaaGreatDoor
attribute [local irreducible] Go.Vc.Run Go.Vc.RC Go.Vc.RQ Go.Vc.DR Go.Vc.DOp Go.Vc.Knows Go.Vc.At
set_option maxHeartbeats 400000
set_option maxRecDepth 10000
open Go Go.Vc Go.Sha
theorem Key.trans {a b c : BkV} (h : Key a b) (k : Key b c) : Key a c := ⟨h.p.trans k.p, h.w.trans k.w, h.t.trans k.t⟩
def blk0 : BkV := ⟨⟨[1, 0, 0, 0, 0, 0, 0, 0], rfl, by decide⟩, 4613937818241073152, by decide, [(coin1, TxV.z)]⟩
theorem may_blk0 : MayB blk0 := ⟨by decide +kernel, ⟨by decide, by decide⟩, fun i q h => by
  cases i with
  | zero =>
    have : q = (coin1, TxV.z) := (Option.some.inj h).symm
    subst this
    exact ⟨may_coin1, ⟨fun _ => rfl, fun _ => rfl⟩⟩
  | succ i => cases h⟩
theorem ln_blk0 : BkLn blk0 := fun q hq => by
  rw [List.mem_singleton.1 hq]
  exact ln_coin1
theorem id_blk0 : idB blk0 ≠ List.replicate 8 0 := by
  unfold idB rootB
  rw [if_pos may_blk0, if_pos may_blk0]
  have e : idL blk0.ts = [digest 120 [[1, 1, 0, 0, 0, 0]]] := by
    show [dgH 120 coin1 []] = _
    rw [show dgH 120 coin1 [] = digest 120 [coin1.b] from if_pos may_coin1, coin1_b]
  rw [e, (wk_bits may_blk0).1]
  show digest 98 [[1, 0, 0, 0, 0, 0, 0, 0], le 4613937818241073152 8, rootOf [digest 120 [[1, 1, 0, 0, 0, 0]]]] ≠ _
  decide +kernel
set_option maxRecDepth 10000 in set_option maxHeartbeats 4000000 in
theorem awake17_calls (w : World) (hK : Laid w) : Gives Tryz.prog 9 [] (.bool true) w := by
  refine enter Tryz.func9 rfl (Mem.nil w []) rfl ?_
  have hT170 : (txC coin1 TxV.z).toArray.size = 170 := by rw [List.size_toArray, txC_len]
  refine x_ ?_
  refine Run.a (vba (u8s [1, 0, 0, 0, 0, 0, 0, 0]).toArray) ?_
  refine Run.a (vbs (txC coin1 TxV.z).toArray) ?_
  refine Run.nw (nbsl (parts := [(0, .tmp 9)]) (txC coin1 TxV.z).toArray (fillS_1 170 _ (txC coin1 TxV.z) (txC_len _ _))) ?_
  intro b10
  refine Run.a (vbs (bkC blk0 (some ⟨b10, 0, none⟩) 1).toArray) ?_
  refine x_ ?_
  refine Run.nw nal ?_
  intro b1
  have hF1 := bkC_one blk0 (some ⟨b10, 0, none⟩) 1
  have hF10 : (bkC blk0 (some ⟨b10, 0, none⟩) 1).toArray.size = 10 := by rw [List.size_toArray, bkC_len]
  refine x_ ?_
  refine Run.op1 (osa (arr := ti27.zero.cells) (bkC blk0 (some ⟨b10, 0, none⟩) 1).toArray hF1 (hs := by exact hF10)) (fun _ => ?_)
  refine x_ ?_
  have hA : ∀ {w' : World} {L0 : Hp}, Mem w [] L0 w' → (b10, Obj.cells (txC coin1 TxV.z).toArray 64 (0, 0)) ∈ L0 → BkAt w' blk0 (some ⟨b10, 0, none⟩) 1 := fun hm hin => ⟨by
    show SrcW _ 170 (.slice (some ⟨b10, 0, none⟩) 1 1) 1 (rws txR [(coin1, TxV.z)])
    rw [rws_one]
    exact SrcW.row hm (e := 64) (fz := (0, 0)) (cs := txC coin1 TxV.z) hin (by rw [txC_len]) (Nat.le_refl 1), fun q hq => by
    rw [List.mem_singleton.1 hq]
    exact at_nul⟩
  have hBl := bkB_len may_blk0
  obtain ⟨F, hF⟩ : ∃ F, F = bkC blk0 (some ⟨b10, 0, none⟩) 1 := ⟨_, rfl⟩
  obtain ⟨G, hG⟩ : ∃ G, G = txC coin1 TxV.z := ⟨_, rfl⟩
  have hEn := fun w' h => EncBk_calls blk0 ln_blk0 (some ⟨b10, 0, none⟩) 1 w' h
  unfold EncK at hEn
  rw [show ebE blk0 = 0 from if_pos may_blk0] at hEn
  have hSm := fun (y : DecY (bkB blk0)) w' h1 h2 => SameBk_calls blk0 y.b ln_blk0 y.ln (some ⟨b10, 0, none⟩) 1 y.a y.c w' h1 h2
  rw [← hF] at hF10 hEn hSm ⊢
  rw [← hG] at hA ⊢
  have hz1 : ([(b1, Obj.cells F.toArray 27 (0, 0)), (b10, Obj.cells G.toArray 64 (0, 0))] : Hp).Perm ([] ++ [(b1, Obj.cells F.toArray 27 (0, 0)), (b10, Obj.cells G.toArray 64 (0, 0))]) := List.Perm.refl _
  refine Run.op1 (OpTo.callT Tryz.func16 hz1 (fun w' hm => hEn w' (hA hm (List.mem_cons_of_mem _ List.mem_cons_self)))) ?_
  rintro ⟨⟨v2, l2⟩, h2⟩
  dsimp only at h2 ⊢
  rw [show wrB blk0 = bkB blk0 from if_pos may_blk0] at h2
  obtain ⟨a2, c2, rfl, hc2⟩ := h2.shape
  refine x_ ?_
  have hz2 : (l2 ++ [(b1, Obj.cells F.toArray 27 (0, 0)), (b10, Obj.cells G.toArray 64 (0, 0))] : Hp).Perm ([] ++ (l2 ++ [(b1, Obj.cells F.toArray 27 (0, 0)), (b10, Obj.cells G.toArray 64 (0, 0))])) := List.Perm.refl _
  refine Run.op1 (OpTo.callT Tryz.func17 hz2 (fun w' hm => DecBk_calls (bkB blk0) (by omega) (bt_bk may_blk0) (.slice a2 (bkB blk0).length c2) w' (h2.srcW (fun q hq => hm.has q (List.mem_append_left _ hq))))) ?_
  intro y
  rw [(dk_back may_blk0).1]
  have hk : Key y.b blk0 := y.key.trans (dk_back may_blk0).2
  have hmy := hk.may.2 may_blk0
  have hId := fun w' h1 h2 => IdBk_calls y.b y.ln y.a y.c w' h1 h2
  rw [decide_eq_true hmy, hk.id] at hId
  have hi8 := idB_len blk0
  have hin := id_blk0
  have hsm : SameK blk0 y.b := ⟨may_blk0, hmy, hk.by.symm⟩
  have hSy := hSm y
  rw [decide_eq_true hsm] at hSy
  have r8 := bk_r8 y.b y.a y.c
  rw [hk.w] at r8
  have hy10 : (bkC y.b y.a y.c).toArray.size = 10 := by rw [List.size_toArray, bkC_len]
  have hy1 := bkC_one y.b y.a y.c
  have hyat := y.hat
  have hybl : ∀ {w' : World} {L0 L1 : Hp}, Mem w [] (L0 ++ (y.bl ++ L1)) w' → Has y.bl w' := fun hm p hp => hm.has p (List.mem_append_right _ (List.mem_append_left _ hp))
  generalize bkC y.b y.a y.c = Y at r8 hy10 hy1 hId hSy ⊢
  generalize idB blk0 = D at hi8 hin hId
  have hDs : (u8s D).toArray.size = 8 := by rw [List.size_toArray, u8s_len, hi8]
  refine x_ ?_
  refine Run.nw nal ?_
  intro b4
  refine x_ ?_
  refine Run.op1 (osa (arr := ti27.zero.cells) Y.toArray hy1 (hs := by exact hy10)) (fun _ => ?_)
  refine x_ ?_
  refine Run.op1 (OpTo.cv Tryz.func11 (fun w' hm => hId w' (hyat w' (hybl (L0 := [_]) hm)) (hK.fr hm.fr (by simp)))) (fun _ => ?_)
  refine x_ ?_
  refine Run.nw nal ?_
  intro b6
  refine x_ ?_
  refine Run.op1 (osa (arr := ti23.zero.cells) (u8s D).toArray (u8s_one D) (hs := by rw [List.size_toArray, u8s_len, hi8]; rfl)) (fun _ => ?_)
  refine x_ ?_
  refine Run.opG (Wanted.guard rfl rfl rfl rfl) (OpTo.cv Tryz.func15 (fun w' hm => hSy w' (hA hm (List.mem_cons_of_mem _ (List.mem_cons_of_mem _ (List.mem_append_right _ (List.mem_append_right _ (List.mem_cons_of_mem _ List.mem_cons_self)))))) (hyat w' (hybl (L0 := [_, _]) hm)))) (fun _ => ?_)
  refine x_ ?_
  refine Run.a (Val.eq (Val.neU (m := 8) (a := D) (b := List.replicate 8 0) tabOk rfl rfl rfl (by kernel_rfl) (by kernel_rfl) rfl rfl hi8 rfl) (show _ = Value.bool true from by rw [decide_eq_false hin]; rfl)) ?_
  refine x_ ?_
  refine Run.a Val.feql ?_
  rw [show (Ieee.double.order blk0.wk 4613937818241073152 == some .eq) = true from by decide +kernel]
  refine x_ ?_
  exact RQ.ret1 rfl (Res.tmp rfl) fun w' hm => ⟨rfl, hm.fr⟩
end Go.Proofs.YtfoeakgnkfcbjaaGreatDoor
end
section
/- tx: the reference's cursor: what its calls come to; Num, Hash. -/
namespace Go.Proofs.YtfoeakgnkfcbjaaGreatDoor
attribute [local irreducible] Go.Vc.Run Go.Vc.RC Go.Vc.RQ Go.Vc.DR Go.Vc.DOp Go.Vc.Knows Go.Vc.At
set_option maxHeartbeats 400000
set_option maxRecDepth 10000
open Go Go.Vc Go.Sha
/-- Where the cursor stands: what is left, and whether it is bad. -/
abbrev CuS := List Nat × Bool
abbrev Tp (α : Type) := CuS → α × CuS
def cN (k : Nat) : Tp Int := fun s => if s.2 = false ∧ k ≤ s.1.length then ((num8 (s.1.take k) : Nat), (s.1.drop k, false)) else (0, (s.1, true))
def cB : Tp (By 8) := fun s => if h : s.2 = false ∧ (s.1.take 8).length = 8 ∧ ∀ x ∈ s.1.take 8, x < 256 then (⟨s.1.take 8, h.2⟩, (s.1.drop 8, false)) else (By.z 8, (s.1, true))
def cAnd {α β : Type} (P : Tp α) (Q : Tp β) : Tp (α × β) := fun s => (((P s).1, (Q (P s).2).1), (Q (P s).2).2)
def cMap {α β : Type} (f : α → β) (P : Tp α) : Tp β := fun s => (f (P s).1, (P s).2)
def cRep {α : Type} (P : Tp α) : Nat → Tp (List α)
  | 0 => fun s => ([], s)
  | n + 1 => fun s => if (cRep P n s).2.2 = true then cRep P n s else ((cRep P n s).1 ++ [(P (cRep P n s).2).1], (P (cRep P n s).2).2)
def cRow {α : Type} (P : Tp α) : Tp (List α) := fun s => cRep P (cN 1 s).1.toNat (cN 1 s).2
def By.snoc {m : Nat} (a : By (m * 8)) (b : By 8) : By ((m + 1) * 8) := ⟨a.1 ++ b.1, by rw [List.length_append, a.2.1, b.2.1, Nat.add_mul], fun x hx => (List.mem_append.1 hx).elim (a.2.2 x) (b.2.2 x)⟩
def zHs : (m : Nat) → Tp (By (m * 8))
  | 0 => fun s => (⟨[], rfl, fun x hx => absurd hx List.not_mem_nil⟩, s)
  | m + 1 => fun s => ((zHs m s).1.snoc (cB (zHs m s).2).1, (cB (zHs m s).2).2)
/-- So reads the cursor as the other reading does. -/
structure Agr {α : Type} (T : Tp α) (P : Ps α) : Prop where
  ok : ∀ r x r', Bt r → P r = some (x, r') → T (r, false) = (x, (r', false))
  no : ∀ r, Bt r → P r = none → (T (r, false)).2.2 = true
  bad : ∀ s, s.2 = true → (T s).2.2 = true
  sfx : ∀ s, (T s).2.1 <:+ s.1
theorem agr_N (k : Nat) : Agr (cN k) (pN k) where
  ok r x r' hb h := by
    unfold pN at h
    split at h
    · rename_i hk
      simp only [Option.some.injEq, Prod.mk.injEq] at h
      obtain ⟨rfl, rfl⟩ := h
      exact if_pos ⟨rfl, hk⟩
    · cases h
  no r hb h := by
    unfold pN at h
    split at h
    · cases h
    · rename_i hk
      have : cN k (r, false) = (0, (r, true)) := if_neg fun e => hk e.2
      rw [this]
  bad s hs := by
    have : cN k s = (0, (s.1, true)) := if_neg fun e => by rw [hs] at e; exact absurd e.1 (by decide)
    rw [this]
  sfx s := by
    unfold cN
    split
    · exact List.drop_suffix _ _
    · exact List.suffix_refl _
theorem cB_ok {r : List Nat} (p : (r.take 8).length = 8 ∧ ∀ x ∈ r.take 8, x < 256) : cB (r, false) = (⟨r.take 8, p⟩, (r.drop 8, false)) := dif_pos (c := (false = false ∧ (r.take 8).length = 8 ∧ ∀ x ∈ r.take 8, x < 256)) ⟨rfl, p⟩
theorem cB_no {s : CuS} (h : s.2 = true ∨ s.1.length < 8) : cB s = (By.z 8, (s.1, true)) := dif_neg fun e => by
  rcases h with h | h
  · rw [h] at e; exact absurd e.1 (by decide)
  · have := e.2.1
    rw [List.length_take] at this
    omega
theorem cB_sfx (s : CuS) : (cB s).2.1 <:+ s.1 := by
  unfold cB
  split
  · exact List.drop_suffix _ _
  · exact List.suffix_refl _
theorem agr_Hs : ∀ (m : Nat), Agr (zHs m) (pB (m * 8))
  | 0 => by
    refine ⟨fun r x r' hb h => ?_, fun r hb h => ?_, fun s hs => hs, fun s => List.suffix_refl _⟩
    · obtain ⟨_, h1, h2⟩ := pB_split h
      rw [Nat.zero_mul, List.drop_zero] at h2
      subst h2
      refine Prod.ext (Subtype.ext ?_) rfl
      show ([] : List Nat) = x.1
      rw [h1]
      simp
    · obtain ⟨p, e⟩ := pB_some (k := 0 * 8) (by omega) hb
      rw [e] at h
      cases h
  | m + 1 => by
    have ih := agr_Hs m
    refine ⟨fun r x r' hb h => ?_, fun r hb h => ?_, fun s hs => ?_, fun s => ?_⟩
    · obtain ⟨h0, h1, rfl⟩ := pB_split h
      obtain ⟨p, e⟩ := pB_some (k := m * 8) (by omega) hb
      have e1 := ih.ok r _ _ hb e
      have hd : (r.drop (m * 8)).length = r.length - m * 8 := List.length_drop
      obtain ⟨q, e2⟩ := pB_some (k := 8) (r := r.drop (m * 8)) (by omega) (hb.drop _)
      show ((zHs m (r, false)).1.snoc (cB (zHs m (r, false)).2).1, (cB (zHs m (r, false)).2).2) = _
      rw [e1]
      dsimp only
      rw [cB_ok q]
      refine Prod.ext (Subtype.ext ?_) ?_
      · show r.take (m * 8) ++ (r.drop (m * 8)).take 8 = x.1
        rw [h1, Nat.add_mul, Nat.one_mul, List.take_add]
      · show ((r.drop (m * 8)).drop 8, false) = (r.drop ((m + 1) * 8), false)
        rw [List.drop_drop, Nat.add_mul, Nat.one_mul]
    · have h0 : r.length < (m + 1) * 8 := by
        by_cases hc : (m + 1) * 8 ≤ r.length
        · obtain ⟨p, e⟩ := pB_some hc hb
          rw [e] at h; cases h
        · omega
      show (cB (zHs m (r, false)).2).2.2 = true
      by_cases hc : m * 8 ≤ r.length
      · obtain ⟨p, e⟩ := pB_some hc hb
        rw [ih.ok r _ _ hb e, cB_no (.inr (by show (r.drop (m * 8)).length < 8; rw [List.length_drop]; omega))]
      · rw [cB_no (.inl (ih.no r hb (pB_none (by omega))))]
    · show (cB (zHs m s).2).2.2 = true
      rw [cB_no (.inl (ih.bad s hs))]
    · exact (cB_sfx _).trans (ih.sfx s)
theorem agr_B : Agr cB (pB 8) where
  ok r x r' hb h := by
    obtain ⟨h0, h1, rfl⟩ := pB_split h
    obtain ⟨p, e⟩ := pB_some h0 hb
    rw [cB_ok p]
    exact Prod.ext (Subtype.ext h1.symm) rfl
  no r hb h := by
    by_cases hc : 8 ≤ r.length
    · obtain ⟨p, e⟩ := pB_some hc hb
      rw [e] at h; cases h
    · rw [cB_no (.inr (by show r.length < 8; omega))]
  bad s hs := by rw [cB_no (.inl hs)]
  sfx := cB_sfx
theorem Agr.lt {α : Type} {T : Tp α} {P : Ps α} (g : Agr T P) {r r' : List Nat} {x : α} (hb : Bt r) (h : P r = some (x, r')) : Bt r' := by
  have h1 := g.ok r x r' hb h
  have h2 := g.sfx (r, false)
  rw [h1] at h2
  exact fun y hy => hb y (h2.mem hy)
theorem Agr.and {α β : Type} {T : Tp α} {P : Ps α} {U : Tp β} {Q : Ps β} (g : Agr T P) (k : Agr U Q) : Agr (cAnd T U) (pAnd P Q) where
  ok r x r' hb h := by
    unfold pAnd at h
    rcases h1 : P r with _ | ⟨y, r1⟩
    · rw [h1] at h; cases h
    · rw [h1] at h
      dsimp only at h
      rcases h2 : Q r1 with _ | ⟨z, r2⟩
      · rw [h2] at h; cases h
      · rw [h2] at h
        cases h
        unfold cAnd
        rw [g.ok r y r1 hb h1, k.ok r1 z _ (g.lt hb h1) h2]
  no r hb h := by
    unfold pAnd at h
    show (U (T (r, false)).2).2.2 = true
    rcases h1 : P r with _ | ⟨y, r1⟩
    · exact k.bad _ (g.no r hb h1)
    · rw [h1] at h
      dsimp only at h
      rw [g.ok r y r1 hb h1]
      rcases h2 : Q r1 with _ | ⟨z, r2⟩
      · exact k.no r1 (g.lt hb h1) h2
      · rw [h2] at h; cases h
  bad s hs := k.bad _ (g.bad s hs)
  sfx s := (k.sfx _).trans (g.sfx s)
theorem Agr.map {α β : Type} {T : Tp α} {P : Ps α} (g : Agr T P) (f : α → β) : Agr (cMap f T) (pMap f P) where
  ok r x r' hb h := by
    unfold pMap at h
    rcases h1 : P r with _ | ⟨y, r1⟩
    · rw [h1] at h; cases h
    · rw [h1] at h
      cases h
      unfold cMap
      rw [g.ok r y _ hb h1]
  no r hb h := by
    unfold pMap at h
    rcases h1 : P r with _ | ⟨y, r1⟩
    · exact g.no r hb h1
    · rw [h1] at h; cases h
  bad s hs := g.bad s hs
  sfx s := g.sfx s
theorem Agr.rep {α : Type} {T : Tp α} {P : Ps α} (g : Agr T P) : ∀ n, Agr (cRep T n) (pRep P n)
  | 0 => by
    refine ⟨fun r x r' hb h => ?_, fun r hb h => ?_, fun s hs => hs, fun s => List.suffix_refl _⟩
    · simp only [pRep, Option.some.injEq, Prod.mk.injEq] at h
      obtain ⟨rfl, rfl⟩ := h
      rfl
    · cases h
  | n + 1 => by
    have ih := Agr.rep g n
    refine ⟨fun r x r' hb h => ?_, fun r hb h => ?_, fun s hs => ?_, fun s => ?_⟩
    · rw [pRep_succ] at h
      rcases h1 : pRep P n r with _ | ⟨y, r1⟩
      · rw [h1] at h; cases h
      · rw [h1] at h
        dsimp only at h
        rcases h2 : P r1 with _ | ⟨z, r2⟩
        · rw [h2] at h; cases h
        · rw [h2] at h
          cases h
          unfold cRep
          rw [ih.ok r y r1 hb h1]
          dsimp only
          rw [g.ok r1 z _ (ih.lt hb h1) h2]
          rfl
    · rw [pRep_succ] at h
      unfold cRep
      split
      · assumption
      · rcases h1 : pRep P n r with _ | ⟨y, r1⟩
        · exact g.bad _ (ih.no r hb h1)
        · rw [h1] at h
          dsimp only at h
          rw [ih.ok r y r1 hb h1]
          rcases h2 : P r1 with _ | ⟨z, r2⟩
          · exact g.no r1 (ih.lt hb h1) h2
          · rw [h2] at h; cases h
    · unfold cRep
      split
      · assumption
      · exact g.bad _ (ih.bad s hs)
    · unfold cRep
      split
      · exact ih.sfx s
      · exact (g.sfx _).trans (ih.sfx s)
theorem cRep_bad {α : Type} {T : Tp α} {k : Nat} {s : CuS} (h : (cRep T k s).2.2 = true) : ∀ n, k ≤ n → cRep T n s = cRep T k s := by
  intro n hn
  obtain ⟨d, rfl⟩ : ∃ d, n = k + d := ⟨n - k, by omega⟩
  induction d with
  | zero => rfl
  | succ d ih =>
    rw [← Nat.add_assoc]
    have e := ih (by omega)
    show (if (cRep T (k + d) s).2.2 = true then cRep T (k + d) s else _) = _
    rw [if_pos (by rw [e]; exact h), e]
theorem cRep_step {α : Type} {T : Tp α} {k : Nat} {s s1 s2 : CuS} {xs : List α} {x : α} (h : cRep T k s = (xs, s1)) (hb : s1.2 = false) (hx : T s1 = (x, s2)) : cRep T (k + 1) s = (xs ++ [x], s2) := by
  unfold cRep
  rw [h]
  dsimp only
  rw [if_neg (by rw [hb]; decide), hx]
theorem Agr.row {α : Type} {T : Tp α} {P : Ps α} (g : Agr T P) : Agr (cRow T) (pRow P) where
  ok r x r' hb h := by
    unfold pRow at h
    rcases h1 : pN 1 r with _ | ⟨n, r1⟩
    · rw [h1] at h; cases h
    · rw [h1] at h
      unfold cRow
      rw [(agr_N 1).ok r n r1 hb h1]
      exact (g.rep n.toNat).ok r1 x r' ((agr_N 1).lt hb h1) h
  no r hb h := by
    unfold pRow at h
    unfold cRow
    rcases h1 : pN 1 r with _ | ⟨n, r1⟩
    · exact (g.rep _).bad _ ((agr_N 1).no r hb h1)
    · rw [h1] at h
      rw [(agr_N 1).ok r n r1 hb h1]
      exact (g.rep n.toNat).no r1 ((agr_N 1).lt hb h1) h
  bad s hs := (g.rep _).bad _ ((agr_N 1).bad s hs)
  sfx s := ((g.rep _).sfx _).trans ((agr_N 1).sfx s)
def zSig : Tp SigD := cMap (fun q => ⟨q.1, q.2.1, q.2.2.1, q.2.2.2⟩) (cAnd (cN 1) (cAnd (zHs 16) (cAnd (zHs 16) (zHs 3))))
theorem agr_sig : Agr zSig pSig := ((agr_N 1).and ((agr_Hs 16).and ((agr_Hs 16).and (agr_Hs 3)))).map _
def zIn : Tp InD := cMap (fun q => ⟨q.1, q.2.1, q.2.2.1, q.2.2.2⟩) (cAnd cB (cAnd (cN 1) (cAnd cB zSig)))
theorem agr_in : Agr zIn pIn := (agr_B.and ((agr_N 1).and (agr_B.and agr_sig))).map _
def zOut : Tp OutD := cMap (fun q => ⟨q.1, q.2⟩) (cAnd cB (cN 7))
theorem agr_out : Agr zOut pOut := (agr_B.and (agr_N 7)).map _
def zFo : Tp FoD := cMap (fun q => ⟨q.1, q.2.1, q.2.2.1, q.2.2.2⟩) (cAnd (cN 1) (cAnd (cN 2) (cAnd cB (cN 7))))
theorem agr_fo : Agr zFo pFo := ((agr_N 1).and ((agr_N 2).and (agr_B.and (agr_N 7)))).map _
def zSg : Tp SgD := cMap (fun q => ⟨q.1, q.2⟩) (cAnd (cN 1) zSig)
theorem agr_sg : Agr zSg pSg := ((agr_N 1).and agr_sig).map _
def zPr : Tp PrD := cMap (fun q => ⟨q.1, q.2.1, q.2.2.1, q.2.2.2⟩) (cAnd (cN 1) (cAnd (cN 1) (cAnd (cN 1) (cRow cB))))
theorem agr_pr : Agr zPr pPr := ((agr_N 1).and ((agr_N 1).and ((agr_N 1).and agr_B.row))).map _
def zCe : Tp CeD := cMap (fun q => ⟨q.1, q.2.1, q.2.2.1, q.2.2.2.1, q.2.2.2.2.1, q.2.2.2.2.2.1, q.2.2.2.2.2.2⟩) (cAnd (cN 1) (cAnd (cN 4) (cAnd (cN 4) (cAnd cB (cAnd cB (cAnd (cRow zOut) (cRow zSg)))))))
theorem agr_ce : Agr zCe pCe := ((agr_N 1).and ((agr_N 4).and ((agr_N 4).and (agr_B.and (agr_B.and (agr_out.row.and agr_sg.row)))))).map _
def zCl : Tp ClD := cMap (fun q => ⟨q.1, q.2.1, q.2.2.1, q.2.2.2.1, q.2.2.2.2.1, q.2.2.2.2.2⟩) (cAnd (cN 1) (cAnd (cN 2) (cAnd cB (cAnd (cN 7) (cAnd (cN 1) (zHs 16))))))
theorem agr_cl : Agr zCl pCl := ((agr_N 1).and ((agr_N 2).and (agr_B.and ((agr_N 7).and ((agr_N 1).and (agr_Hs 16)))))).map _
def zCoin : Tp TxD := cMap (fun q => tCoin q.1 q.2) (cAnd (cN 4) (cRow zOut))
def zPay : Tp TxD := cMap (fun q => tPay q.1 q.2.1 q.2.2) (cAnd (cRow zIn) (cAnd (cRow zOut) (cRow zFo)))
def zTx : Tp TxD := fun s =>
  if (cN 1 s).1 = 1 then zCoin (cN 1 s).2
  else if (cN 1 s).1 = 2 then zPay (cN 1 s).2
  else if (cN 1 s).1 = 3 then cMap tCreate zPr (cN 1 s).2
  else if (cN 1 s).1 = 4 then cMap tCert zCe (cN 1 s).2
  else if (cN 1 s).1 = 5 then cMap tClaim zCl (cN 1 s).2
  else (TxD.nul (cN 1 s).1, (cN 1 s).2)
theorem agr_coin : Agr zCoin (pMap (fun q => tCoin q.1 q.2) (pAnd (pN 4) (pRow pOut))) := ((agr_N 4).and agr_out.row).map _
theorem agr_pay : Agr zPay (pMap (fun q => tPay q.1 q.2.1 q.2.2) (pAnd (pRow pIn) (pAnd (pRow pOut) (pRow pFo)))) := (agr_in.row.and (agr_out.row.and agr_fo.row)).map _
theorem agr_tx : Agr zTx pTx where
  ok r x r' hb h := by
    unfold pTx at h
    rcases h1 : pN 1 r with _ | ⟨n, r1⟩
    · rw [h1] at h; cases h
    · rw [h1] at h
      have hb1 := (agr_N 1).lt hb h1
      unfold zTx
      rw [(agr_N 1).ok r n r1 hb h1]
      dsimp only at h ⊢
      repeat' split at h
      all_goals first | (rw [if_pos ‹_›]) | skip
      · exact agr_coin.ok _ _ _ hb1 h
      · rw [if_neg ‹_›, if_pos ‹_›]; exact agr_pay.ok _ _ _ hb1 h
      · rw [if_neg ‹_›, if_neg ‹_›, if_pos ‹_›]; exact (agr_pr.map _).ok _ _ _ hb1 h
      · rw [if_neg ‹_›, if_neg ‹_›, if_neg ‹_›, if_pos ‹_›]; exact (agr_ce.map _).ok _ _ _ hb1 h
      · rw [if_neg ‹_›, if_neg ‹_›, if_neg ‹_›, if_neg ‹_›, if_pos ‹_›]; exact (agr_cl.map _).ok _ _ _ hb1 h
      · rw [if_neg ‹_›, if_neg ‹_›, if_neg ‹_›, if_neg ‹_›, if_neg ‹_›]
        cases h; rfl
  no r hb h := by
    unfold pTx at h
    unfold zTx
    rcases h1 : pN 1 r with _ | ⟨n, r1⟩
    · have := (agr_N 1).no r hb h1
      repeat' split
      · exact agr_coin.bad _ this
      · exact agr_pay.bad _ this
      · exact (agr_pr.map _).bad _ this
      · exact (agr_ce.map _).bad _ this
      · exact (agr_cl.map _).bad _ this
      · exact this
    · rw [h1] at h
      have hb1 := (agr_N 1).lt hb h1
      rw [(agr_N 1).ok r n r1 hb h1]
      dsimp only at h ⊢
      repeat' split
      · rw [if_pos ‹_›] at h; exact agr_coin.no _ hb1 h
      · rw [if_neg ‹_›, if_pos ‹_›] at h; exact agr_pay.no _ hb1 h
      · rw [if_neg ‹_›, if_neg ‹_›, if_pos ‹_›] at h; exact (agr_pr.map _).no _ hb1 h
      · rw [if_neg ‹_›, if_neg ‹_›, if_neg ‹_›, if_pos ‹_›] at h; exact (agr_ce.map _).no _ hb1 h
      · rw [if_neg ‹_›, if_neg ‹_›, if_neg ‹_›, if_neg ‹_›, if_pos ‹_›] at h; exact (agr_cl.map _).no _ hb1 h
      · rw [if_neg ‹_›, if_neg ‹_›, if_neg ‹_›, if_neg ‹_›, if_neg ‹_›] at h; cases h
  bad s hs := by
    have := (agr_N 1).bad s hs
    unfold zTx
    repeat' split
    · exact agr_coin.bad _ this
    · exact agr_pay.bad _ this
    · exact (agr_pr.map _).bad _ this
    · exact (agr_ce.map _).bad _ this
    · exact (agr_cl.map _).bad _ this
    · exact this
  sfx s := by
    have := (agr_N 1).sfx s
    unfold zTx
    repeat' split
    · exact (agr_coin.sfx _).trans this
    · exact (agr_pay.sfx _).trans this
    · exact ((agr_pr.map _).sfx _).trans this
    · exact ((agr_ce.map _).sfx _).trans this
    · exact ((agr_cl.map _).sfx _).trans this
    · exact this
theorem cN_nat {s s1 : CuS} {x : Int} (h : cN 1 s = (x, s1)) (hb : Bt s.1) : ∃ n : Nat, x = (n : Int) ∧ n < 256 := by
  unfold cN at h
  split at h
  · simp only [Prod.mk.injEq] at h
    refine ⟨_, h.1.symm, ?_⟩
    have := num8_lt (s.1.take 1) (hb.take 1)
    rw [List.length_take] at this
    exact Nat.lt_of_lt_of_le this (by
      rename_i hk
      rw [Nat.min_eq_left hk.2]; decide)
  · simp only [Prod.mk.injEq] at h
    exact ⟨0, h.1.symm, by decide⟩
theorem one_b (z : Bool) : ∀ u ∈ (Value.bool z).cells.toList, u.oneCell' = true := by
  intro u hu
  simp only [Value.cells, List.mem_cons, List.not_mem_nil, or_false] at hu
  subst hu; rfl
/-- The cursor. -/
abbrev CuC (a : Option Addr) (cc : Nat) (l : List Nat) (s : CuS) : Obj := .cells #[.slice a l.length cc, .int .i64 ((l.length - s.1.length : Nat) : Int), .bool s.2] 96 (0, 0)
/-- A function that reads with the cursor. -/
def CurC (f : FuncId) (vs : List Value) (cb : Nat) (a : Option Addr) (cc : Nat) (l : List Nat) (s : CuS) (Ex : Hp) {α : Type} (res : α × CuS) (Y : α → Type) (V : (x : α) → Y x → Value) (L' : (x : α) → Y x → Hp) : Prop :=
  ∀ w, l.length ≤ cc → InB w (((cb, CuC a cc l s) :: Ex).map (·.1)) a l → Has ((cb, CuC a cc l s) :: Ex) w → (((cb, CuC a cc l s) :: Ex).map (·.1)).Nodup → Turns Tryz.prog f vs w ((cb, CuC a cc l s) :: Ex) (Y := Y res.1) (V res.1) (fun y => (cb, CuC a cc l res.2) :: L' res.1 y)
theorem callC {n : Nat} {w0 : World} {S0 : List Nat} {Q : Exit → Act → World → Prop} {E : Env} {L Lr : Hp} {o : Oper} {d : Nat} {cb : Nat} {a : Option Addr} {cc : Nat} {l : List Nat} {s s' : CuS} {Ex : Hp} {α : Type} {res : α × CuS} {Y : α → Type} {V : (x : α) → Y x → Value} {L' : (x : α) → Y x → Hp} {f : FuncId} {xs : List Operand} {ts : Array TypeId} {fn : Func} {vs : List Value} {x : α} (hf : Tryz.prog.funcs[f]? = some fn) (hC : CurC f vs cb a cc l s Ex res Y V L') (hcc : l.length ≤ cc) (hI : InB w0 S0 a l) (hL : L.Perm (((cb, CuC a cc l s) :: Ex) ++ Lr)) (h : res = (x, s'))
    (hd : o.dst = some d := by exact rfl) (hn : Nat.blt d n = true := by exact rfl) (ho : o.op = .call { callee := .value (.func f), args := xs.toArray, argTypes := ts } := by exact rfl) (hnm : (fn.name == "runtime.NumGoroutine") = false := by exact rfl) (hb : fn.body.isNone = false := by exact rfl)
    (hx : lkAll E xs = some vs := by exact rfl) : OpTo Tryz.prog n w0 S0 Q E L o (Y := Y x) (fun y => (d, V x y) :: E) (fun y => ((cb, CuC a cc l s') :: L' x y) ++ Lr) := by
  subst h
  refine OpTo.callT (V := V x) (L' := fun y => (cb, CuC a cc l s') :: L' x y) hf hL (fun w hm => ?_) hd hn ho hnm hb hx
  obtain ⟨h1, h2⟩ := hasFs hL hm
  refine hC w hcc (hI.sub (hm.perm hL) fun b hb => ?_) h1 h2
  rw [List.map_append]
  exact List.mem_append_left _ hb
theorem src_cap {w : World} {sz m c c' : Nat} {a : Option Addr} {cs : List Value} (h : SrcW w sz (.slice a m c) m cs) (h0 : 0 < m) (hc : m ≤ c') : SrcW w sz (.slice a m c') m cs := by
  obtain ⟨ad, c1, hv, _, hl, hr⟩ := h.pos h0
  cases hv
  exact .at ad _ _ _ hl hc hr
set_option maxRecDepth 10000 in set_option maxHeartbeats 4000000 in
theorem CGet_calls (l : List Nat) (hb : ∀ x ∈ l, x < 256) (k m : Nat) (hm : m ≤ 7) (hk : k + m ≤ l.length) (hll : l.length ≤ 1000000) (v : Value) (w : World) (hs : SrcW w 1 v l.length (u8s l)) :
    Gives Tryz.prog 90 [v, .int .i64 k, .int .i64 m] (.int .i64 (num8 ((l.drop k).take m) : Nat)) w := by
  refine enter Tryz.func90 rfl (Mem.nil w []) rfl ?_
  obtain ⟨la, lc, rfl, hlc⟩ := hs.shape
  obtain ⟨bs, hbs⟩ : ∃ bs, bs = (l.drop k).take m := ⟨_, rfl⟩
  have hbl : bs.length = m := by rw [hbs, List.length_take, List.length_drop]; omega
  have hbb : ∀ x ∈ bs, x < 256 := fun x hx => by rw [hbs] at hx; exact hb x (List.mem_of_mem_drop (List.mem_of_mem_take hx))
  rw [← hbs]
  refine z_ ?_
  refine RC.up m (D := Unit) (fun _ _ => True) (fun j _ => [(8, .int .i64 ((m : Int) - 1 - j)), (7, .int .i64 (num8 (bs.drop (m - j)) : Nat)), (2, .int .i64 m), (1, .int .i64 k), (0, .slice la l.length lc)]) (fun _ _ => []) 0 () (Nat.zero_le _) trivial ⟨?_, ?_, rfl, rfl, rfl, trivial⟩ (List.Sublist.refl _) ?_
  · exact congrArg (fun z => some (Value.int .i64 z)) (by omega)
  · rw [Nat.sub_zero, List.drop_of_length_le (by omega)]; rfl
  intro j _ hj _
  refine z_ ?_
  (repeat refine RC.seq ?_); refine RC.wh rfl (fun h => RQ.next ?_) (fun h => ?_)
  · have hj' : j < m := by have := of_decide_eq_true h; omega
    clear h
    obtain ⟨ad, c', hv', hc', hcl, hr⟩ := hs.pos (by omega)
    cases hv'
    obtain ⟨x, hx⟩ : ∃ x, bs[m - 1 - j]? = some x := ⟨_, List.getElem?_eq_getElem (by omega)⟩
    have hx8 := hbb x (List.mem_of_getElem? hx)
    have hlx : l[k + (m - 1 - j)]? = some x := by
      rw [hbs, List.getElem?_take, if_pos (by omega), List.getElem?_drop] at hx
      exact hx
    have hcx : w.cell? (ad.add (k + (m - 1 - j))) = some (.int .u8 x) := hr _ _ (by unfold u8s; rw [List.getElem?_map, hlx]; rfl)
    have hnd : num8 (bs.drop (m - 1 - j)) = x + 256 * num8 (bs.drop (m - 1 - j + 1)) := by
      have hp := (List.getElem?_eq_some_iff.1 hx)
      rw [List.drop_eq_getElem_cons hp.1, hp.2]
      rfl
    rw [show m - 1 - j + 1 = m - j by omega] at hnd
    have hlt := num8_lt (bs.drop (m - j)) (fun y hy => hbb y (List.mem_of_mem_drop hy))
    rw [List.length_drop, hbl, show m - (m - j) = j by omega] at hlt
    have hp : 2 ^ (8 * j) ≤ 2 ^ 48 := Nat.pow_le_pow_right (by decide) (by omega)
    generalize num8 (bs.drop (m - j)) = acc at hnd hlt ⊢
    have hacc : acc < 2 ^ 48 := Nat.lt_of_lt_of_le hlt hp
    have hjl : k + (m - 1 - j) < l.length := by omega
    refine z_ ?_
    refine Run.a (vix (k + (m - 1 - j)) hjl (ad.add (k + (m - 1 - j))) (ha := by show ad.add (_ * 1) = _; rw [Nat.mul_one])) ?_
    refine Run.a (vlo hcx) ?_
    refine z_ ?_
    have hv : IntKind.i64.wrap ((BitVec.ofInt IntKind.i64.bits (IntKind.i64.wrap ((acc : Int) * 2 ^ min (8 : Int).toNat IntKind.i64.bits)) ||| BitVec.ofInt IntKind.i64.bits (x : Int)).toNat : Nat) = ((num8 (bs.drop (m - (j + 1))) : Nat) : Int) := by
      have e2 : (acc : Int) * 2 ^ min (8 : Int).toNat IntKind.i64.bits = ((acc * 2 ^ 8 : Nat) : Int) := by
        rw [show min (8 : Int).toNat IntKind.i64.bits = 8 from rfl]; push_cast; rfl
      have e3 : IntKind.i64.wrap ((acc * 2 ^ 8 : Nat) : Int) = ((acc * 2 ^ 8 : Nat) : Int) := wrap_in (by dsimp only [inK]; omega)
      rw [e2, e3, show m - (j + 1) = m - 1 - j by omega, hnd]
      have eb : (BitVec.ofInt IntKind.i64.bits ((acc * 2 ^ 8 : Nat) : Int) ||| BitVec.ofInt IntKind.i64.bits ((x : Nat) : Int)).toNat = x + 256 * acc := by
        rw [BitVec.toNat_or, BitVec.ofInt_natCast, BitVec.ofInt_natCast, BitVec.toNat_ofNat, BitVec.toNat_ofNat, show IntKind.i64.bits = 64 from rfl, Nat.mod_eq_of_lt (by omega), Nat.mod_eq_of_lt (by omega), or_shift acc x (2 ^ 8) 8 rfl hx8]
        omega
      rw [eb]
      exact wrap_in (by dsimp only [inK]; omega)
    exact RQ.up (j + 1) () (Nat.lt_succ_self _) hj' trivial ⟨congrArg (fun z => some (Value.int .i64 z)) (by omega), congrArg (fun z => some (Value.int .i64 z)) hv, rfl, rfl, rfl, trivial⟩ (List.Sublist.refl _)
  · have hj' : j = m := by have := of_decide_eq_false h; omega
    subst hj'
    rw [Nat.sub_self, List.drop_zero]
    refine z_ ?_
    exact RQ.ret1 rfl (Res.tmp rfl) fun w' hm => ⟨rfl, hm.fr⟩
/-- Numbers. -/
theorem cuNum (k : Nat) (hk : 1 ≤ k ∧ k ≤ 7) (cb : Nat) (a : Option Addr) (cc : Nat) (l : List Nat) (s : CuS) (hs : s.1 <:+ l) : CurC 51 [.pointer (some ⟨cb, 0, none⟩), .int .i64 k] cb a cc l s [] (cN k s) (fun _ => Unit) (fun x _ => .int .i64 x) (fun _ _ => []) := by
  intro w hcc hI hw hnd
  refine enter Tryz.func51 rfl (Mem.init (S0 := ((cb, CuC a cc l s) :: []).map (·.1)) hw (fun p hp => List.mem_map_of_mem hp) hnd) rfl ?_
  have hrl := hs.length_le
  have hlen := hI.len
  have hbt := hI.bt
  obtain ⟨r, b⟩ := s
  dsimp only at hs hrl
  cases b
  rotate_left
  · have e : cN k (r, true) = (0, (r, true)) := if_neg fun e => by have h : (true : Bool) = false := e.1; cases h
    rw [e]
    refine x_ ?_
    (repeat refine RC.seq ?_); refine RC.draw ([(cb, CuC a cc l (r, true))]) mixed (N := 18) rfl ?_
    refine dt 0 ?_
    refine dt 1 ?_
    refine dt 2 ?_
    refine dt 3 ?_
    refine dt 4 ?_
    refine DR.p 5 rfl ?_
    refine DR.p 6 rfl ?_
    refine DR.p 7 rfl ?_
    refine DR.p 8 rfl ?_
    refine DR.p 9 rfl ?_
    refine DR.p 10 rfl ?_
    refine DR.p 11 rfl ?_
    refine DR.p 12 rfl ?_
    refine DR.p 13 rfl ?_
    refine DR.p 14 rfl ?_
    refine DR.p 15 rfl ?_
    refine DR.p 16 rfl ?_
    refine dt 17 ?_
    refine DR.done (by kernel_rfl) ?_
    refine x_ ?_
    refine Run.op1 (os1 #[.slice a l.length cc, .int .i64 ((l.length - r.length : Nat) : Int), .bool true]) (fun _ => ?_)
    refine x_ ?_
    exact RQ.ret1 rfl (Res.tmp rfl) fun w' hm => Turns.of (V := fun _ => .int .i64 0) (L' := fun _ => [(cb, CuC a cc l (r, true))]) () hm (Lr := []) (List.Perm.refl _)
  by_cases h : k ≤ r.length
  · have e : cN k (r, false) = (((num8 (r.take k) : Nat) : Int), (r.drop k, false)) := if_pos ⟨rfl, h⟩
    rw [e]
    have hpre : r = l.drop (l.length - r.length) := by
      obtain ⟨p, rfl⟩ := hs
      rw [List.length_append, Nat.add_sub_cancel, List.drop_left]
    refine x_ ?_
    (repeat refine RC.seq ?_); refine RC.draw ([(cb, CuC a cc l (r, false))]) mixed (N := 18) rfl ?_
    refine dt 0 ?_
    refine dt 1 ?_
    refine dt 2 ?_
    refine dt 3 ?_
    refine dt 4 ?_
    refine dt 5 ?_
    refine dt 6 ?_
    refine dt 7 ?_
    refine dt 8 ?_
    refine dt 9 ?_
    refine dt 10 ?_
    refine dt 11 ?_
    refine dt 12 ?_
    refine dt 13 ?_
    refine dt 14 ?_
    refine dt 15 ?_
    refine dt 16 ?_
    refine dt 17 ?_
    refine DR.done (by kernel_rfl) ?_
    refine x_ ?_
    (repeat refine RC.seq ?_); refine RC.draw ([(cb, CuC a cc l (r, false))]) mixed (N := 11) rfl ?_
    refine dt 0 ?_
    refine dt 1 ?_
    refine dt 2 ?_
    refine dt 3 ?_
    refine dt 4 ?_
    refine dt 5 ?_
    refine dt 6 ?_
    refine dt 7 ?_
    refine dt 8 ?_
    refine DR.c 9 (DOp.op1 rfl (OpTo.cv Tryz.func90 (fun w' hm => CGet_calls l hbt (l.length - r.length) k hk.2 (by omega) (by omega) _ w' (src_cap (InB.sub (X := []) hI hm (by simp)).src (by omega) hcc))) (fun _ => ?_))
    refine dt 10 ?_
    refine DR.done (by kernel_rfl) ?_
    rw [← hpre]
    have e2 : ((l.length - r.length : Nat) : Int) + (k : Int) = ((l.length - (r.drop k).length : Nat) : Int) := by rw [List.length_drop]; omega
    refine x_ ?_
    refine Run.op1 (ostE (arr := #[.slice a l.length cc, .int .i64 ((l.length - r.length : Nat) : Int), .bool false]) (e := 96) (L' := []) #[.slice a l.length cc, .int .i64 ((l.length - (r.drop k).length : Nat) : Int), .bool false] (hL := List.Perm.refl _) (he := by rw [← e2]; rfl) (hf := by exact Nat.le_of_ble_eq_true rfl) (h1 := by exact one_i _ _)) (fun _ => ?_)
    refine x_ ?_
    exact RQ.ret1 rfl (Res.tmp rfl) fun w' hm => Turns.of (V := fun _ => .int .i64 (num8 (r.take k) : Nat)) (L' := fun _ => [(cb, CuC a cc l (r.drop k, false))]) () hm (Lr := []) (List.Perm.refl _)
  · have e : cN k (r, false) = (0, (r, true)) := if_neg fun e => h e.2
    rw [e]
    refine x_ ?_
    (repeat refine RC.seq ?_); refine RC.draw ([(cb, CuC a cc l (r, false))]) mixed (N := 18) rfl ?_
    refine dt 0 ?_
    refine dt 1 ?_
    refine dt 2 ?_
    refine dt 3 ?_
    refine dt 4 ?_
    refine dt 5 ?_
    refine dt 6 ?_
    refine dt 7 ?_
    refine dt 8 ?_
    refine dt 9 ?_
    refine dt 10 ?_
    refine dt 11 ?_
    refine dt 12 ?_
    refine dt 13 ?_
    refine dt 14 ?_
    refine dt 15 ?_
    refine dt 16 ?_
    refine dt 17 ?_
    refine DR.done (by kernel_rfl) ?_
    refine x_ ?_
    refine Run.op1 (os1 #[.slice a l.length cc, .int .i64 ((l.length - r.length : Nat) : Int), .bool true]) (fun _ => ?_)
    refine x_ ?_
    exact RQ.ret1 rfl (Res.tmp rfl) fun w' hm => Turns.of (V := fun _ => .int .i64 0) (L' := fun _ => [(cb, CuC a cc l (r, true))]) () hm (Lr := []) (List.Perm.refl _)
/-- Hashes. -/
theorem cuHash (cb : Nat) (a : Option Addr) (cc : Nat) (l : List Nat) (s : CuS) (hs : s.1 <:+ l) : CurC 49 [.pointer (some ⟨cb, 0, none⟩)] cb a cc l s [] (cB s) (fun _ => Unit) (fun x _ => .agg (u8s x.1).toArray) (fun _ _ => []) := by
  intro w hcc hI hw hnd
  refine enter Tryz.func49 rfl (Mem.init (S0 := ((cb, CuC a cc l s) :: []).map (·.1)) hw (fun p hp => List.mem_map_of_mem hp) hnd) rfl ?_
  have hrl := hs.length_le
  have hlen := hI.len
  have hbt := hI.bt
  obtain ⟨r, b⟩ := s
  dsimp only at hs hrl
  refine x_ ?_
  refine Run.nw nal ?_
  intro b2
  refine x_ ?_
  refine Run.nw nal ?_
  intro b3
  cases b
  rotate_left
  · rw [cB_no (.inl rfl)]
    refine x_ ?_
    (repeat refine RC.seq ?_); refine RC.draw ([(cb, CuC a cc l (r, true))]) mixed (N := 17) rfl ?_
    refine dt 0 ?_
    refine dt 1 ?_
    refine dt 2 ?_
    refine dt 3 ?_
    refine dt 4 ?_
    refine DR.p 5 rfl ?_
    refine DR.p 6 rfl ?_
    refine DR.p 7 rfl ?_
    refine DR.p 8 rfl ?_
    refine DR.p 9 rfl ?_
    refine DR.p 10 rfl ?_
    refine DR.p 11 rfl ?_
    refine DR.p 12 rfl ?_
    refine DR.p 13 rfl ?_
    refine DR.p 14 rfl ?_
    refine DR.p 15 rfl ?_
    refine dt 16 ?_
    refine DR.done (by kernel_rfl) ?_
    refine x_ ?_
    refine Run.op1 (ostE (arr := #[.slice a l.length cc, .int .i64 ((l.length - r.length : Nat) : Int), .bool true]) (e := 96) (L' := [(b3, Obj.cells ti23.zero.cells 23 (0, 0)), (b2, Obj.cells ti23.zero.cells 23 (0, 0))]) #[.slice a l.length cc, .int .i64 ((l.length - r.length : Nat) : Int), .bool true] (hL := show (_ : Hp).Perm ((cb, CuC a cc l (r, true)) :: [(b3, Obj.cells ti23.zero.cells 23 (0, 0)), (b2, Obj.cells ti23.zero.cells 23 (0, 0))]) from (perm_of fun f => by (simp only [List.map_append, List.map_cons, List.map_nil, List.sum_append, List.sum_cons, List.sum_nil] <;> omega))) (he := by rfl) (hf := by exact Nat.le_of_ble_eq_true rfl) (h1 := by exact one_b _)) (fun _ => ?_)
    refine x_ ?_
    refine Run.op1 (osa (arr := ti23.zero.cells) (e := 23) (L' := [(cb, Obj.cells #[.slice a l.length cc, .int .i64 ((l.length - r.length : Nat) : Int), .bool true] 96 (0, 0)), (b3, Obj.cells ti23.zero.cells 23 (0, 0))]) (u8s [0, 0, 0, 0, 0, 0, 0, 0]).toArray (u8s_one _) (hL := (perm_of fun f => by (simp only [List.map_append, List.map_cons, List.map_nil, List.sum_append, List.sum_cons, List.sum_nil] <;> omega)))) (fun _ => ?_)
    refine x_ ?_
    exact RQ.ret1 rfl (Res.cellAll tabOk rfl rfl rfl m0 rfl) fun w' hm => Turns.of (V := fun _ => .agg (u8s (By.z 8).1).toArray) (L' := fun _ => [(cb, CuC a cc l (r, true))]) () hm (Lr := [(b2, Obj.cells (u8s [0, 0, 0, 0, 0, 0, 0, 0]).toArray 23 (0, 0)), (b3, Obj.cells ti23.zero.cells 23 (0, 0))]) (show (_ : Hp).Perm ([(cb, Obj.cells #[.slice a l.length cc, .int .i64 ((l.length - r.length : Nat) : Int), .bool true] 96 (0, 0))] ++ [(b2, Obj.cells (u8s [0, 0, 0, 0, 0, 0, 0, 0]).toArray 23 (0, 0)), (b3, Obj.cells ti23.zero.cells 23 (0, 0))]) from (perm_of fun f => by (simp only [List.map_append, List.map_cons, List.map_nil, List.sum_append, List.sum_cons, List.sum_nil] <;> omega)))
  by_cases h : 8 ≤ r.length
  · obtain ⟨p, _⟩ := pB_some h (fun x hx => hbt x (hs.mem hx))
    rw [cB_ok p]
    dsimp only
    obtain ⟨ad, c, hv, hc, hcl, hrd⟩ := hI.src.pos (by omega)
    cases hv
    have hS : ∀ j, (ad.add j).block ∉ ((cb, CuC (some ad) cc l (r, false)) :: ([] : Hp)).map (·.1) := by
      intro j hin
      exact hI.away (by omega) ad rfl (by rw [add_block] at hin; exact hin)
    have hpre : r = l.drop (l.length - r.length) := by
      obtain ⟨p, rfl⟩ := hs
      rw [List.length_append, Nat.add_sub_cancel, List.drop_left]
    have hrd8 : ∀ j u, (u8s (r.take 8))[j]? = some u → w.cell? ((ad.add ((l.length - r.length) * 1)).add j) = some u := fun j u hj => by
      rw [Nat.mul_one, add_add]
      refine hrd _ u ?_
      rw [u8s_take, List.getElem?_take] at hj
      split at hj
      · rw [hpre, u8s_drop, List.getElem?_drop] at hj; exact hj
      · cases hj
    have hl8 : (u8s (r.take 8)).length = 8 := by rw [u8s_len, p.1]
    refine x_ ?_
    (repeat refine RC.seq ?_); refine RC.draw ([(cb, CuC (some ad) cc l (r, false))]) mixed (N := 17) rfl ?_
    refine dt 0 ?_
    refine dt 1 ?_
    refine dt 2 ?_
    refine dt 3 ?_
    refine dt 4 ?_
    refine dt 5 ?_
    refine dt 6 ?_
    refine dt 7 ?_
    refine dt 8 ?_
    refine dt 9 ?_
    refine dt 10 ?_
    refine dt 11 ?_
    refine dt 12 ?_
    refine dt 13 ?_
    refine dt 14 ?_
    refine dt 15 ?_
    refine dt 16 ?_
    refine DR.done (by kernel_rfl) ?_
    refine x_ ?_
    (repeat refine RC.seq ?_); refine RC.draw ([(cb, CuC (some ad) cc l (r, false))]) mixed (N := 16) rfl ?_
    refine DR.t 0 rfl (vslA) ?_
    refine dt 1 ?_
    refine dt 2 ?_
    refine dt 3 ?_
    refine dt 4 ?_
    refine dt 5 ?_
    refine dt 6 ?_
    refine dt 7 ?_
    refine dt 8 ?_
    refine dt 9 ?_
    refine dt 10 ?_
    refine dt 11 ?_
    refine dt 12 ?_
    refine dt 13 ?_
    refine DR.t 14 rfl (Val.sliceS tabOk (zl := l.length - r.length) (zh := l.length - r.length + 8) rfl rfl rfl rfl rfl (.inr ⟨_, rfl, rfl⟩) (.inr ⟨_, rfl, rfl⟩) (by omega) (by omega)) ?_
    rw [if_neg (show ¬ cc = l.length - r.length by omega), show l.length - r.length + 8 - (l.length - r.length) = 8 by omega]
    refine DR.c 15 ?_
    refine DOp.op1 rfl (OpTo.copyTo tabOk (arr := ti23.zero.cells) (e := 23) (b := b3) (off := 0) (L' := [(b2, Obj.cells ti23.zero.cells 23 (0, 0)), (cb, CuC (some ad) cc l (r, false))]) (arr' := (u8s (r.take 8)).toArray) (m := 8) (cs := u8s (r.take 8)) (Rd.old (hS _) hrd8) (by rw [wrAt_all _ _ (by rw [hl8]; rfl)]) rfl rfl rfl rfl rfl rfl rfl rfl (perm_of fun f => by (simp only [List.map_append, List.map_cons, List.map_nil, List.sum_append, List.sum_cons, List.sum_nil] <;> omega)) hl8 rfl (by rw [hl8]; decide) (u8s_one _)) (fun _ => ?_)
    refine DR.done (by kernel_rfl) ?_
    have e2 : ((l.length - r.length : Nat) : Int) + (8 : Int) = ((l.length - (r.drop 8).length : Nat) : Int) := by rw [List.length_drop]; omega
    refine x_ ?_
    refine Run.op1 (ostE (arr := #[.slice (some ad) l.length cc, .int .i64 ((l.length - r.length : Nat) : Int), .bool false]) (e := 96) (L' := [(b3, Obj.cells (u8s (r.take 8)).toArray 23 (0, 0)), (b2, Obj.cells ti23.zero.cells 23 (0, 0))]) #[.slice (some ad) l.length cc, .int .i64 ((l.length - (r.drop 8).length : Nat) : Int), .bool false] (hL := show (_ : Hp).Perm ((cb, CuC (some ad) cc l (r, false)) :: [(b3, Obj.cells (u8s (r.take 8)).toArray 23 (0, 0)), (b2, Obj.cells ti23.zero.cells 23 (0, 0))]) from (perm_of fun f => by (simp only [List.map_append, List.map_cons, List.map_nil, List.sum_append, List.sum_cons, List.sum_nil] <;> omega))) (he := by rw [← e2]; rfl) (hf := by exact Nat.le_of_ble_eq_true rfl) (h1 := by exact one_i _ _)) (fun _ => ?_)
    have hsz : (u8s (r.take 8)).toArray.size = 8 := by rw [List.size_toArray, hl8]
    refine x_ ?_
    refine Run.op1 (osa (arr := ti23.zero.cells) (e := 23) (L' := [(cb, Obj.cells #[.slice (some ad) l.length cc, .int .i64 ((l.length - (r.drop 8).length : Nat) : Int), .bool false] 96 (0, 0)), (b3, Obj.cells (u8s (r.take 8)).toArray 23 (0, 0))]) (u8s (r.take 8)).toArray (u8s_one _) (hL := (perm_of fun f => by (simp only [List.map_append, List.map_cons, List.map_nil, List.sum_append, List.sum_cons, List.sum_nil] <;> omega))) (hs := hsz)) (fun _ => ?_)
    refine x_ ?_
    exact RQ.ret1 rfl (Res.cellAll tabOk rfl rfl rfl m0 hsz) fun w' hm => Turns.of (V := fun _ => .agg (u8s (r.take 8)).toArray) (L' := fun _ => [(cb, CuC (some ad) cc l (r.drop 8, false))]) () hm (Lr := [(b2, Obj.cells (u8s (r.take 8)).toArray 23 (0, 0)), (b3, Obj.cells (u8s (r.take 8)).toArray 23 (0, 0))]) (show (_ : Hp).Perm ([(cb, Obj.cells #[.slice (some ad) l.length cc, .int .i64 ((l.length - (r.drop 8).length : Nat) : Int), .bool false] 96 (0, 0))] ++ [(b2, Obj.cells (u8s (r.take 8)).toArray 23 (0, 0)), (b3, Obj.cells (u8s (r.take 8)).toArray 23 (0, 0))]) from (perm_of fun f => by (simp only [List.map_append, List.map_cons, List.map_nil, List.sum_append, List.sum_cons, List.sum_nil] <;> omega)))
  · rw [cB_no (.inr (by show r.length < 8; omega))]
    refine x_ ?_
    (repeat refine RC.seq ?_); refine RC.draw ([(cb, CuC a cc l (r, false))]) mixed (N := 17) rfl ?_
    refine dt 0 ?_
    refine dt 1 ?_
    refine dt 2 ?_
    refine dt 3 ?_
    refine dt 4 ?_
    refine dt 5 ?_
    refine dt 6 ?_
    refine dt 7 ?_
    refine dt 8 ?_
    refine dt 9 ?_
    refine dt 10 ?_
    refine dt 11 ?_
    refine dt 12 ?_
    refine dt 13 ?_
    refine dt 14 ?_
    refine dt 15 ?_
    refine dt 16 ?_
    refine DR.done (by kernel_rfl) ?_
    refine x_ ?_
    refine Run.op1 (ostE (arr := #[.slice a l.length cc, .int .i64 ((l.length - r.length : Nat) : Int), .bool false]) (e := 96) (L' := [(b3, Obj.cells ti23.zero.cells 23 (0, 0)), (b2, Obj.cells ti23.zero.cells 23 (0, 0))]) #[.slice a l.length cc, .int .i64 ((l.length - r.length : Nat) : Int), .bool true] (hL := show (_ : Hp).Perm ((cb, CuC a cc l (r, false)) :: [(b3, Obj.cells ti23.zero.cells 23 (0, 0)), (b2, Obj.cells ti23.zero.cells 23 (0, 0))]) from (perm_of fun f => by (simp only [List.map_append, List.map_cons, List.map_nil, List.sum_append, List.sum_cons, List.sum_nil] <;> omega))) (he := by rfl) (hf := by exact Nat.le_of_ble_eq_true rfl) (h1 := by exact one_b _)) (fun _ => ?_)
    refine x_ ?_
    refine Run.op1 (osa (arr := ti23.zero.cells) (e := 23) (L' := [(cb, Obj.cells #[.slice a l.length cc, .int .i64 ((l.length - r.length : Nat) : Int), .bool true] 96 (0, 0)), (b3, Obj.cells ti23.zero.cells 23 (0, 0))]) (u8s [0, 0, 0, 0, 0, 0, 0, 0]).toArray (u8s_one _) (hL := (perm_of fun f => by (simp only [List.map_append, List.map_cons, List.map_nil, List.sum_append, List.sum_cons, List.sum_nil] <;> omega)))) (fun _ => ?_)
    refine x_ ?_
    exact RQ.ret1 rfl (Res.cellAll tabOk rfl rfl rfl m0 rfl) fun w' hm => Turns.of (V := fun _ => .agg (u8s (By.z 8).1).toArray) (L' := fun _ => [(cb, CuC a cc l (r, true))]) () hm (Lr := [(b2, Obj.cells (u8s [0, 0, 0, 0, 0, 0, 0, 0]).toArray 23 (0, 0)), (b3, Obj.cells ti23.zero.cells 23 (0, 0))]) (show (_ : Hp).Perm ([(cb, Obj.cells #[.slice a l.length cc, .int .i64 ((l.length - r.length : Nat) : Int), .bool true] 96 (0, 0))] ++ [(b2, Obj.cells (u8s [0, 0, 0, 0, 0, 0, 0, 0]).toArray 23 (0, 0)), (b3, Obj.cells ti23.zero.cells 23 (0, 0))]) from (perm_of fun f => by (simp only [List.map_append, List.map_cons, List.map_nil, List.sum_append, List.sum_cons, List.sum_nil] <;> omega)))
end Go.Proofs.YtfoeakgnkfcbjaaGreatDoor
end
