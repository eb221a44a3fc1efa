/- sparse: SparseOrder. -/
import Derived.Test.YtaabinhpagbajaaDoorSpV
set_option linter.unusedSimpArgs false
set_option linter.unusedVariables false
namespace Go.Proofs.YtaabinhpagbajaaDoor
attribute [local irreducible] Go.Vc.Run Go.Vc.RC Go.Vc.RQ Go.Vc.DR Go.Vc.DOp
open Go Go.Vc Go.Sha
def X9 : List Nat := [9, 9, 0, 0, 0, 0, 0, 0]
theorem X9_8 : H8 X9 := ⟨rfl, by decide⟩
theorem _root_.Go.Sha.DpD.one (d : DpD) : ∀ u ∈ d.c, u.oneCell' = true := by
  intro u hu
  unfold DpD.c at hu
  rcases List.mem_cons.1 hu with rfl | hu
  · rfl
  · exact u8s_one _ u hu
theorem rotL_perm {α : Type} (l : List α) (k : Nat) : l.Perm (l.drop k ++ l.take k) := (List.Perm.of_eq (List.take_append_drop k l).symm).trans List.perm_append_comm
set_option maxRecDepth 10000 in set_option maxHeartbeats 4000000 in
theorem SparseOrder_calls (l : List DpD) (hll : l.length ≤ 9223372036854775807) (tn : Nat) (htn : tn < 256) (g : Nat) (hg : g < 65536) (vl : Value) (w : World) (hs : SrcW w 9 vl l.length (rws DpD.c l)) (hK : Laid w) :
    Gives Tryd.prog 6 [vl, .int .u8 tn, .int .u16 g] (.bool true) w := by
  refine enter Tryd.func6 rfl (Mem.nil w []) rfl ?_
  obtain ⟨la, lc, rfl, hlc⟩ := hs.shape
  refine z_ ?_
  refine Run.op1 (OpTo.cv Tryd.func8 (fun w' hm => awake_calls w' (hK.fr hm.fr (by simp)))) (fun _ => ?_)
  by_cases hl : l.length ≤ 40
  case neg =>
    refine z_ ?_
    exact RQ.ret1 rfl (Res.tmp rfl) fun w' hm => ⟨rfl, hm.fr⟩
  refine z_ ?_
  refine RC.up l.length (D := Unit) (fun k _ => ∀ (a b : Nat) (x y : DpD), a < b → b < k → l[a]? = some x → l[b]? = some y → x.i ≠ y.i) (fun k _ => [(7, .int .i64 k), (2, .int .u16 g), (1, .int .u8 tn), (0, .slice la l.length lc)]) (fun _ _ => []) 0 () (Nat.zero_le _) (fun a b x y _ h => by omega) ⟨rfl, rfl, rfl, rfl, trivial⟩ (List.Sublist.refl _) ?_
  intro i _ hi hdis
  refine z_ ?_
  (repeat refine RC.seq ?_); refine RC.wh rfl (fun h => RQ.next ?_) (fun h => ?_)
  · have hi' : i < l.length := by have := of_decide_eq_true h; omega
    clear h
    obtain ⟨e, hx⟩ : ∃ e, l[i]? = some e := ⟨_, List.getElem?_eq_getElem hi'⟩
    obtain ⟨ad, c', hv', hc', hcl, hr⟩ := hs.pos (by omega)
    cases hv'
    have hle : w.cell? ((ad.add (i * 9)).add 0) = some (.int .i64 e.i) := by rw [add_add]; exact hr _ _ (rws_at DpD.len hx 0 _ rfl)
    refine z_ ?_
    refine RC.up i (D := Unit) (fun k _ => ∀ (a : Nat) (x : DpD), a < k → l[a]? = some x → x.i ≠ e.i) (fun k _ => [(8, .int .i64 k), (7, .int .i64 i), (2, .int .u16 g), (1, .int .u8 tn), (0, .slice (some ad) l.length lc)]) (fun _ _ => []) 0 () (Nat.zero_le _) (fun a x h => by omega) ⟨rfl, rfl, rfl, rfl, rfl, trivial⟩ (List.Sublist.refl _) ?_
    intro k _ hk hin
    refine z_ ?_
    (repeat refine RC.seq ?_); refine RC.wh rfl (fun h => RQ.next ?_) (fun h => ?_)
    · have hk' : k < i := by have := of_decide_eq_true h; omega
      clear h
      obtain ⟨f, hy⟩ : ∃ f, l[k]? = some f := ⟨_, List.getElem?_eq_getElem (by omega)⟩
      have hlf : w.cell? ((ad.add (k * 9)).add 0) = some (.int .i64 f.i) := by rw [add_add]; exact hr _ _ (rws_at DpD.len hy 0 _ rfl)
      refine z_ ?_
      (repeat refine RC.seq ?_); refine RC.draw [] mixed (N := 11) rfl ?_
      refine dt 0 ?_
      refine dt 1 ?_
      refine DR.t 2 rfl (vix (len := l.length) k (by omega) (ad.add (k * 9))) ?_
      refine DR.t 3 rfl (vfA) ?_
      refine DR.t 4 rfl (vlo hlf) ?_
      refine dt 5 ?_
      refine dt 6 ?_
      refine DR.t 7 rfl (vix i hi' (ad.add (i * 9))) ?_
      refine DR.t 8 rfl (vfA) ?_
      refine DR.t 9 rfl (vlo hle) ?_
      by_cases he : f.i = e.i
      · refine DR.t 10 rfl (Val.eqs) ?_
        refine DR.done (by kernel_rfl) ?_
        refine z_ ?_
        exact RQ.ret1 rfl (Res.tmp rfl) fun w' hm => ⟨rfl, hm.fr⟩
      · refine DR.t 10 rfl (Val.eqf) ?_
        refine DR.done (by kernel_rfl) ?_
        refine z_ ?_
        refine RQ.upS (k + 1) () (Nat.lt_succ_self _) hk' (fun a x ha hx' => ?_) ⟨rfl, rfl, rfl, rfl, rfl, trivial⟩ (List.Perm.refl _) (List.Sublist.refl _)
        rcases Nat.lt_succ_iff_lt_or_eq.1 ha with ha | rfl
        · exact hin a x ha hx'
        · rw [hy] at hx'; cases hx'; exact he
    · have hk' : k = i := by have := of_decide_eq_false h; omega
      clear h
      subst hk'
      (repeat refine RQ.thenExit ?_); refine RQ.blockHere ?_
      refine z_ ?_
      refine RQ.upS (k + 1) () (Nat.lt_succ_self _) hi' (fun a b x y hab hb hxa hyb => ?_) ⟨rfl, rfl, rfl, rfl, trivial⟩ (List.Perm.refl _) (List.Sublist.refl _)
      rcases Nat.lt_succ_iff_lt_or_eq.1 hb with hb | rfl
      · exact hdis a b x y hab hb hxa hyb
      · rw [hx] at hyb; cases hyb; exact hin a x hab hxa
  · have hi' : i = l.length := by have := of_decide_eq_false h; omega
    clear h
    subst hi'
    have hpw : l.Pairwise (fun x y => x.i ≠ y.i) := by
      rw [List.pairwise_iff_getElem]
      intro a b ha hb hab
      exact hdis a b _ _ hab hb (List.getElem?_eq_getElem ha) (List.getElem?_eq_getElem hb)
    clear hdis
    (repeat refine RQ.thenExit ?_); refine RQ.blockHere ?_
    refine RQ.next ?_
    refine z_ ?_
    have hz0 : ∀ L : Hp, L.Perm ([] ++ L) := fun _ => List.Perm.refl _
    refine Run.op1 (OpTo.callT Tryd.func9 (hz0 _) (fun w' hm => Fill_calls l (by omega) _ w' (hs.fr hm.fr) (hK.fr hm.fr (by simp)))) ?_
    rintro ⟨tb, mb, lb, p, hfin⟩
    dsimp only
    rw [List.append_nil]
    have ok := p.ok
    refine z_ ?_
    refine RC.thenCut (Y := Unit) (fun _ => [(12, .int .i64 (if 0 < l.length then tn % l.length else 0 : Nat)), (9, .pointer (some ⟨tb, 0, none⟩)), (2, .int .u16 g), (0, .slice la l.length lc)]) (fun _ => p.L) ?_ (fun _ => ?_)
    · by_cases hl0 : 0 < l.length
      · rw [if_pos hl0]
        refine z_ ?_
        exact RQ.toP () ⟨rfl, rfl, rfl, rfl, trivial⟩ (List.Perm.refl _) (List.Sublist.refl _)
      · rw [if_neg hl0]
        refine z_ ?_
        exact RQ.toP () ⟨rfl, rfl, rfl, rfl, trivial⟩ (List.Perm.refl _) (List.Sublist.refl _)
    have hkk : (if 0 < l.length then tn % l.length else 0 : Nat) ≤ l.length := by
      split
      · exact Nat.le_of_lt (Nat.mod_lt _ (by assumption))
      · omega
    generalize (if 0 < l.length then tn % l.length else 0 : Nat) = kk at hkk ⊢
    obtain ⟨l', hl'⟩ : ∃ l', l' = l.drop kk ++ l.take kk := ⟨_, rfl⟩
    have hln' : l'.length = l.length := by rw [hl', List.length_append, List.length_drop, List.length_take]; omega
    have hsame : lfF (finL l') = lfF p.y.r := by rw [hfin, hl']; exact (fin_same (rotL_perm l kk) hpw).symm
    have hlo := hs.lo hkk
    have hhi := hs.hi hkk
    rw [(rws_drop DpD.len l kk).1] at hlo
    rw [(rws_drop DpD.len l kk).2] at hhi
    clear hfin hpw
    have hone : ∀ (ls : List DpD), ∀ u ∈ rws DpD.c ls, u.oneCell' = true := fun ls => rws_one' fun d _ => d.one
    (repeat refine RC.seq ?_); refine RC.draw [] mixed (N := 17) rfl ?_
    refine dt 1 ?_
    refine dt 2 ?_
    refine DR.t 3 rfl (Val.slLo tabOk kk rfl rfl rfl rfl rfl rfl hkk hlc) ?_
    refine dt 5 ?_
    refine dt 6 ?_
    refine DR.t 7 rfl (Val.slHi tabOk kk rfl rfl rfl rfl rfl rfl hkk hlc) ?_
    refine DR.c 0 ?_
    refine DOp.op1 rfl (OpTo.new rfl rfl (nbsl #[] (by kernel_rfl))) ?_
    intro b63
    refine DR.c 4 (DOp.op1 rfl (OpTo.append (L1 := p.L) tabOk (Own.row (e := 46) (sz := 9) b63 0 0 [] [] rfl rfl (Nat.le_refl 0) (Nat.zero_le _)) hlo.src rfl rfl rfl rfl rfl rfl rfl rfl rfl (List.Perm.refl _) (hone _) (by unfold maxLen; omega) (by simp only [ti46]; omega)) ?_)
    rintro ⟨⟨v67, bl67⟩, hw67⟩
    dsimp only at hw67 ⊢
    refine DR.c 8 (DOp.op1 rfl (OpTo.append (L1 := p.L) tabOk hw67 hhi.src rfl rfl rfl rfl rfl rfl rfl rfl rfl (List.Perm.refl _) (hone _) (by unfold maxLen; omega) (by simp only [ti46]; omega)) ?_)
    rintro ⟨⟨v71, bl71⟩, hw71⟩
    dsimp only at hw71 ⊢
    rw [List.nil_append, ← rws_app, ← hl', show 0 + (l.length - kk) + kk = l'.length from by omega] at hw71
    refine DR.c 9 (DOp.op1 rfl (OpTo.callT Tryd.func9 (hz0 _) (fun w' hm => Fill_calls l' (by omega) _ w' (hw71.srcW fun q hq => hm.has q (List.mem_append_left _ hq)) (hK.fr hm.fr (by simp)))) ?_)
    rintro ⟨tu, mu, lu, q, hfq⟩
    dsimp only
    refine dt 10 ?_
    refine dt 11 ?_
    refine dt 12 ?_
    refine dt 13 ?_
    refine dt 14 ?_
    refine dt 15 ?_
    refine dt 16 ?_
    refine DR.done (by kernel_rfl) ?_
    have hrt : rtL q.y.r = rtL p.y.r := by unfold rtL; rw [hfq, hsame]
    have c0 := FRoot q
    rw [hrt] at c0
    clear hrt hfq hsame hw71 hw67
    have h8 := rtL_8 ok
    have c1 := FRoot p
    have sR : (u8s (rtL p.y.r)).toArray.size = 8 := by rw [List.size_toArray, u8s_len, h8.1]
    refine z_ ?_
    refine Run.op1 (OpTo.cv Tryd.func12 (fun w' hm => c1 w' (fun a ha => hm.has a (List.mem_append_right _ (List.mem_append_right _ ha))))) (fun _ => ?_)
    refine z_ ?_
    refine Run.op1 (OpTo.cv Tryd.func12 (fun w' hm => c0 w' (fun a ha => hm.has a (List.mem_append_left _ ha)))) (fun _ => ?_)
    refine Run.a (Val.eq (Val.neU (m := 8) (a := rtL p.y.r) (b := rtL p.y.r) tabOk rfl rfl rfl (by kernel_rfl) (by kernel_rfl) rfl rfl h8.1 h8.1) (show _ = Value.bool false from by simp)) ?_
    refine z_ ?_
    refine Run.op1 (OpTo.cv Tryd.func12 (fun w' hm => c1 w' (fun a ha => hm.has a (List.mem_append_right _ (List.mem_append_right _ ha))))) (fun _ => ?_)
    refine z_ ?_
    refine Run.op1 (OpTo.callT Tryd.func19 (hz0 _) (fun w' hm => TCopy_calls p.x w' (p.hx (fun a ha => hm.has a (List.mem_append_right _ (List.mem_append_right _ ha)))))) ?_
    rintro ⟨tc, mc⟩
    dsimp only
    obtain ⟨xc, hxc⟩ : ∃ xc : Tr tc mc, xc = ⟨p.x.es, p.x.clock, p.x.ok⟩ := ⟨_, rfl⟩
    have eC : ([(tc, Obj.cells #[.map (some mc)] 57 (0, 0)), (mc, mpO p.x.es p.x.clock)] : Hp) = xc.L := by rw [hxc]; rfl
    have rpc : RepT xc (lfF p.y.r) := by rw [hxc]; exact p.rp
    rw [eC]
    clear hxc eC
    refine Run.nw nal ?_
    intro b16
    refine Run.op1 (osa (u8s (rtL p.y.r)).toArray (u8s_one _) (hs := sR)) (fun _ => ?_)
    refine z_ ?_
    have g8 := lfI_8 ok (g : Int)
    have sG : (u8s (lfI p.y.r (g : Int))).toArray.size = 8 := by rw [List.size_toArray, u8s_len, g8.1]
    refine Run.op1 (OpTo.cv Tryd.func14 (fun w' hm => FGet p (g : Int) w' (fun a ha => hm.has a (List.mem_cons_of_mem _ (List.mem_append_right _ (List.mem_append_right _ (List.mem_append_right _ ha))))))) (fun _ => ?_)
    refine Run.nw nal ?_
    intro b18
    refine Run.op1 (osa (u8s (lfI p.y.r (g : Int))).toArray (u8s_one _) (hs := sG)) (fun _ => ?_)
    refine z_ ?_
    refine Run.a (vba (u8s X9).toArray) ?_
    obtain ⟨rest, hrest⟩ : ∃ rest : Hp, rest = (b18, Obj.cells (u8s (lfI p.y.r (g : Int))).toArray 29 (0, 0)) :: (b16, Obj.cells (u8s (rtL p.y.r)).toArray 29 (0, 0)) :: (xc.L ++ (q.L ++ (bl71 ++ LvL lb p.y))) := ⟨_, rfl⟩
    have hzP : ((b18, Obj.cells (u8s (lfI p.y.r (g : Int))).toArray 29 (0, 0)) :: (b16, Obj.cells (u8s (rtL p.y.r)).toArray 29 (0, 0)) :: (xc.L ++ (q.L ++ (bl71 ++ p.L)))).Perm (p.x.L ++ rest) := by rw [hrest, show p.L = LvL lb p.y ++ p.x.L from rfl]; exact (perm_of fun f => by (simp only [List.map_append, List.map_cons, List.map_nil, List.sum_append, List.sum_cons, List.sum_nil] <;> omega))
    refine Run.op1 (OpTo.callT Tryd.func20 hzP (fun w' hm => TPut_calls p.x (lfF p.y.r) (lfF_ok ok) p.rp (g : Int) X9 X9_8 w' (hm.part hzP).1 (hm.part hzP).2 (hK.fr hm.fr (by simp)) (fresh_ids hK (hm.perm hzP) (fun a ha => List.mem_append_left _ ha)))) ?_
    rintro ⟨x1, hx1⟩
    dsimp only
    have m18 : (b18, Obj.cells (u8s (lfI p.y.r (g : Int))).toArray 29 (0, 0)) ∈ rest := by rw [hrest]; exact m0
    have m16 : (b16, Obj.cells (u8s (rtL p.y.r)).toArray 29 (0, 0)) ∈ rest := by rw [hrest]; exact m1
    have mxc : ∀ a ∈ xc.L, a ∈ rest := fun a ha => by rw [hrest]; exact List.mem_cons_of_mem _ (List.mem_cons_of_mem _ (List.mem_append_left _ ha))
    refine z_ ?_
    refine Run.a (vla (arr := (u8s (lfI p.y.r (g : Int))).toArray) (hm := List.mem_append_right _ m18) (hv := sG)) ?_
    have hok1 : okF (putF (lfF p.y.r) (g : Int) X9) := by unfold putF; rw [if_pos (by omega)]; exact updF_ok (lfF_ok ok) X9_8
    have hzQ : (x1.L ++ rest).Perm (x1.L ++ rest) := List.Perm.refl _
    refine Run.op1 (OpTo.callT Tryd.func20 hzQ (fun w' hm => TPut_calls x1 _ hok1 hx1 (g : Int) (lfI p.y.r (g : Int)) g8 w' (hm.part hzQ).1 (hm.part hzQ).2 (hK.fr hm.fr (by simp)) (fresh_ids hK hm (fun a ha => List.mem_append_left _ ha)))) ?_
    rintro ⟨x2, hx2⟩
    dsimp only
    have hback : putF (putF (lfF p.y.r) (g : Int) X9) (g : Int) (lfI p.y.r (g : Int)) = lfF p.y.r := by
      unfold putF
      rw [if_pos (by omega), if_pos (by omega), Int.toNat_natCast]
      exact upd_back (F := lfF p.y.r)
    rw [hback] at hx2
    have hlt : ∀ i, 65536 ≤ i → lfF p.y.r i = Z8 := fun i hi => lf_no fun a ha e => by have := ok.lt a ha; omega
    have ln2 := rep_len hx2 hlt
    have lnc := rep_len rpc hlt
    have d1 := fun w' hw' => TRoot_calls x2 w' hw'
    have d2 := fun w' hw' => TRoot_calls xc w' hw'
    have d3 := fun w' hw' => TLen_calls xc w' hw' (by omega)
    have d4 := fun w' hw' => TLen_calls x2 w' hw' (by omega)
    rw [rep_cnt ok rpc] at d3
    rw [rep_cnt ok hx2] at d4
    rw [hx2.1 16 (Nat.le_refl _) 0] at d1
    rw [rpc.1 16 (Nat.le_refl _) 0] at d2
    change ∀ w', _ → Gives _ _ _ (.agg (u8s (rtL p.y.r)).toArray) w' at d1
    change ∀ w', _ → Gives _ _ _ (.agg (u8s (rtL p.y.r)).toArray) w' at d2
    generalize rtL p.y.r = Rt at *
    refine z_ ?_
    (repeat refine RC.seq ?_); refine RC.drawS mixed (N := 22) rfl ?_
    refine dt 0 ?_
    refine DR.t 2 rfl (vla (arr := (u8s Rt).toArray) (hm := List.mem_append_right _ m16) (hv := sR)) ?_
    refine DR.c 1 (DOp.op1 rfl (OpTo.cv Tryd.func12 (fun w' hm => d1 w' (fun a ha => hm.has a (List.mem_append_left _ ha)))) (fun _ => ?_))
    refine DR.t 3 rfl (Val.eq (Val.eqU (m := 8) (a := Rt) (b := Rt) tabOk rfl rfl rfl (by kernel_rfl) (by kernel_rfl) rfl rfl h8.1 h8.1) (show _ = Value.bool true from by simp)) ?_
    refine dt 4 ?_
    refine dt 5 ?_
    refine DR.t 6 rfl (Val.ptrNe3 tabOk rfl rfl rfl rfl rfl) ?_
    refine dt 7 ?_
    refine dt 8 ?_
    refine dt 9 ?_
    refine DR.t 11 rfl (vla (arr := (u8s Rt).toArray) (hm := List.mem_append_right _ m16) (hv := sR)) ?_
    refine DR.c 10 (DOp.op1 rfl (OpTo.cv Tryd.func12 (fun w' hm => d2 w' (fun a ha => hm.has a (List.mem_append_right _ (mxc a ha))))) (fun _ => ?_))
    refine DR.t 12 rfl (Val.eq (Val.eqU (m := 8) (a := Rt) (b := Rt) tabOk rfl rfl rfl (by kernel_rfl) (by kernel_rfl) rfl rfl h8.1 h8.1) (show _ = Value.bool true from by simp)) ?_
    refine dt 13 ?_
    refine dt 14 ?_
    refine dt 15 ?_
    refine dt 17 ?_
    refine DR.c 16 (DOp.op1 rfl (OpTo.cv Tryd.func16 (fun w' hm => d3 w' (fun a ha => hm.has a (List.mem_append_right _ (mxc a ha))))) (fun _ => ?_))
    refine DR.c 18 (DOp.op1 rfl (OpTo.cv Tryd.func16 (fun w' hm => d4 w' (fun a ha => hm.has a (List.mem_append_left _ ha)))) (fun _ => ?_))
    refine dt 19 ?_
    refine dt 20 ?_
    refine dt 21 ?_
    refine DR.done (by kernel_rfl) ?_
    refine z_ ?_
    exact RQ.ret1 rfl (Res.tmp rfl) fun w' hm => ⟨rfl, hm.fr⟩
end Go.Proofs.YtaabinhpagbajaaDoor
