/- account: the reference's Total, Leaving; Same, outs. -/
import Derived.Test.YtfhdfpejjgmdcaaGreatDoorAcZ
set_option linter.unusedSimpArgs false
set_option linter.unusedVariables false
namespace Go.Vc
theorem sum_takeL {α : Type} {l : List α} {f : α → Int} {k : Nat} {e : α} (h : l[k]? = some e) : ((l.take (k + 1)).map f).sum = ((l.take k).map f).sum + f e := by
  rw [List.take_add_one, h, Option.toList_some, List.map_append, List.sum_append]; simp
end Go.Vc
namespace Go.Proofs.YtfhdfpejjgmdcaaGreatDoor
attribute [local irreducible] Go.Vc.Run Go.Vc.RC Go.Vc.RQ Go.Vc.DR Go.Vc.DOp
open Go Go.Vc Go.Sha
section
variable {rb : Nat} (y : RlP rb)
set_option maxRecDepth 10000 in set_option maxHeartbeats 4000000 in
theorem RTotal_calls (w : World) (hw : Has y.L w) : Gives Tryz.prog 52 [.pointer (some ⟨rb, 0, none⟩)] (.int .i64 (IntKind.i64.wrap (totX y.s))) w := by
  refine enter Tryz.func52 rfl (Mem.nil w []) rfl ?_
  have hc := y.cell hw 2
  change w.cell? ⟨rb, 2, none⟩ = some y.vA at hc
  have hs := y.hA.srcW (w := w) fun q hq => hw q (List.mem_cons_of_mem _ (List.mem_append_right _ (List.mem_append_left _ hq)))
  have hll := y.ok.ok.len
  unfold totX
  obtain ⟨aA, cA, evA, hcA⟩ := hs.shape
  rw [evA] at hc hs
  clear evA
  generalize y.s.acs = l at hs hll hcA hc ⊢
  refine z_ ?_
  refine RC.up l.length (D := Unit) (fun _ _ => True) (fun k _ => [(4, .int .i64 k), (3, .int .i64 (IntKind.i64.wrap ((l.take k).map fun p => p.2.am).sum)), (0, .pointer (some ⟨rb, 0, none⟩))]) (fun _ _ => []) 0 () (Nat.zero_le _) trivial ⟨rfl, rfl, rfl, trivial⟩ (List.Sublist.refl _) ?_
  intro k _ hk _
  refine z_ ?_
  refine Run.a (vlo hc) ?_
  refine z_ ?_
  (repeat refine RC.seq ?_); refine RC.wh rfl (fun h => RQ.next ?_) (fun h => ?_)
  · have hk' : k < l.length := by have := of_decide_eq_true h; omega
    clear h
    obtain ⟨p, hx⟩ : ∃ p, l[k]? = some p := ⟨_, List.getElem?_eq_getElem hk'⟩
    obtain ⟨ad, c', hv', hc', hcl, hr⟩ := hs.pos (by omega)
    cases hv'
    have h8 := (acC1_cells p.1 p.2).1
    have hld : w.cell? ((ad.add (k * 10)).add 8) = some (.int .i64 p.2.am) := by
      rw [add_add]; exact hr _ _ (rws_at acC1_len hx 8 _ h8)
    have hsum : IntKind.i64.wrap (IntKind.i64.wrap ((l.take k).map fun p => p.2.am).sum + p.2.am) = IntKind.i64.wrap ((l.take (k + 1)).map fun p => p.2.am).sum := by
      rw [wrap_add64, sum_takeL (f := fun p : Int × AcD => p.2.am) hx]
    refine z_ ?_
    refine Run.a (vlo hc) ?_
    refine z_ ?_
    refine Run.a (vix k hk' (ad.add (k * 10))) ?_
    refine Run.a (Val.fieldAddrA tabOk rfl rfl rfl rfl rfl rfl rfl rfl) ?_
    refine Run.a (vlo hld) ?_
    refine z_ ?_
    exact RQ.upS (k + 1) () (Nat.lt_succ_self _) hk' trivial ⟨rfl, congrArg (fun z => some (Value.int .i64 z)) hsum, rfl, trivial⟩ (List.Perm.refl _) (List.Sublist.refl _)
  · have hk' : k = l.length := by have := of_decide_eq_false h; omega
    clear h
    subst hk'
    rw [List.take_length]
    (repeat refine RQ.thenExit ?_); refine RQ.blockHere ?_
    refine z_ ?_
    exact RQ.ret1 rfl (Res.tmp rfl) fun w' hm => ⟨rfl, hm.fr⟩
set_option maxRecDepth 10000 in set_option maxHeartbeats 4000000 in
theorem RLeaving_calls (w : World) (hw : Has y.L w) : Gives Tryz.prog 53 [.pointer (some ⟨rb, 0, none⟩)] (.int .i64 (IntKind.i64.wrap (leavX y.s))) w := by
  refine enter Tryz.func53 rfl (Mem.nil w []) rfl ?_
  have hc := y.cell hw 3
  change w.cell? ⟨rb, 3, none⟩ = some y.vO at hc
  have hs := y.hO.srcW (w := w) fun q hq => hw q (List.mem_cons_of_mem _ (List.mem_append_right _ (List.mem_append_right _ hq)))
  have hll := y.ok.ol
  unfold leavX
  obtain ⟨aA, cA, evA, hcA⟩ := hs.shape
  rw [evA] at hc hs
  clear evA
  generalize y.s.out = l at hs hll hcA hc ⊢
  refine z_ ?_
  refine RC.up l.length (D := Unit) (fun _ _ => True) (fun k _ => [(4, .int .i64 k), (3, .int .i64 (IntKind.i64.wrap ((l.take k).map (·.am)).sum)), (0, .pointer (some ⟨rb, 0, none⟩))]) (fun _ _ => []) 0 () (Nat.zero_le _) trivial ⟨rfl, rfl, rfl, trivial⟩ (List.Sublist.refl _) ?_
  intro k _ hk _
  refine z_ ?_
  refine Run.a (vlo hc) ?_
  refine z_ ?_
  (repeat refine RC.seq ?_); refine RC.wh rfl (fun h => RQ.next ?_) (fun h => ?_)
  · have hk' : k < l.length := by have := of_decide_eq_true h; omega
    clear h
    obtain ⟨p, hx⟩ : ∃ p, l[k]? = some p := ⟨_, List.getElem?_eq_getElem hk'⟩
    obtain ⟨ad, c', hv', hc', hcl, hr⟩ := hs.pos (by omega)
    cases hv'
    have o98 : (OuD.c p)[8]? = some (.int .i64 p.am) := by
      obtain ⟨o0, o1, o2, o3, o4, o5, o6, o7, e⟩ := len8 p.h8.1
      unfold OuD.c; rw [e]; rfl
    have hld : w.cell? ((ad.add (k * 9)).add 8) = some (.int .i64 p.am) := by
      rw [add_add]; exact hr _ _ (rws_at OuD.len hx 8 _ o98)
    have hsum : IntKind.i64.wrap (IntKind.i64.wrap ((l.take k).map (·.am)).sum + p.am) = IntKind.i64.wrap ((l.take (k + 1)).map (·.am)).sum := by
      rw [wrap_add64, sum_takeL (f := fun p : OuD => p.am) hx]
    refine z_ ?_
    refine Run.a (vlo hc) ?_
    refine z_ ?_
    refine Run.a (vix k hk' (ad.add (k * 9))) ?_
    refine Run.a (Val.fieldAddrA tabOk rfl rfl rfl rfl rfl rfl rfl rfl) ?_
    refine Run.a (vlo hld) ?_
    refine z_ ?_
    exact RQ.upS (k + 1) () (Nat.lt_succ_self _) hk' trivial ⟨rfl, congrArg (fun z => some (Value.int .i64 z)) hsum, rfl, trivial⟩ (List.Perm.refl _) (List.Sublist.refl _)
  · have hk' : k = l.length := by have := of_decide_eq_false h; omega
    clear h
    subst hk'
    rw [List.take_length]
    (repeat refine RQ.thenExit ?_); refine RQ.blockHere ?_
    refine z_ ?_
    exact RQ.ret1 rfl (Res.tmp rfl) fun w' hm => ⟨rfl, hm.fr⟩
end
set_option maxRecDepth 10000 in set_option maxHeartbeats 4000000 in
theorem outs_calls (l : List OuD) (hl16 : l.length ≤ 16) (va vb : Value) (w : World) (ha : SrcW w 9 va l.length (rws OuD.c l)) (hb : SrcW w 9 vb l.length (rws OuD.c l)) : Gives Tryz.prog 19 [va, vb] (.bool true) w := by
  refine enter Tryz.func19 rfl (Mem.nil w []) rfl ?_
  obtain ⟨aA, cA, rfl, hcA⟩ := ha.shape
  obtain ⟨aB, cB, rfl, hcB⟩ := hb.shape
  refine z_ ?_
  refine RC.up l.length (D := Unit) (fun _ _ => True) (fun k _ => [(5, .int .i64 k), (1, .slice aB l.length cB), (0, .slice aA l.length cA)]) (fun _ _ => []) 0 () (Nat.zero_le _) trivial ⟨rfl, rfl, rfl, trivial⟩ (List.Sublist.refl _) ?_
  intro k _ hk _
  refine z_ ?_
  (repeat refine RC.seq ?_); refine RC.wh rfl (fun h => RQ.next ?_) (fun h => ?_)
  · have hk' : k < l.length := by have := of_decide_eq_true h; omega
    clear h
    obtain ⟨p, hx⟩ : ∃ p, l[k]? = some p := ⟨_, List.getElem?_eq_getElem hk'⟩
    obtain ⟨ad, c', hv', hc', hcl, hr⟩ := ha.pos (by omega)
    obtain ⟨be, d', hw', hd', hdl, hq⟩ := hb.pos (by omega)
    cases hv'
    cases hw'
    have l1 : ∀ j u, (OuD.c p)[j]? = some u → w.cell? ((ad.add (k * 9)).add j) = some u := fun j u hj => by rw [add_add]; exact hr _ u (rws_at OuD.len hx j u hj)
    have l2 : ∀ j u, (OuD.c p)[j]? = some u → w.cell? ((be.add (k * 9)).add j) = some u := fun j u hj => by rw [add_add]; exact hq _ u (rws_at OuD.len hx j u hj)
    have hk9 : HasK (List.replicate 8 .u8 ++ [.i64]) (OuD.c p) := (HasK.u8n p.h8.1).append (.cons _ _ .nil)
    have hl := p.len
    refine z_ ?_
    (repeat refine RC.seq ?_); refine RC.drawS mixed (N := 9) rfl ?_
    refine dt 0 ?_
    refine dt 1 ?_
    refine DR.t 2 rfl (vix k hk' (ad.add (k * 9))) ?_
    refine DR.t 3 rfl (vloA l1 hl) ?_
    refine dt 4 ?_
    refine dt 5 ?_
    refine DR.t 6 rfl (vix k hk' (be.add (k * 9))) ?_
    refine DR.t 7 rfl (vloA l2 hl) ?_
    refine DR.t 8 rfl (Val.neC (p := true) (ks := List.replicate 8 .u8 ++ [.i64]) tabOk rfl rfl rfl (by kernel_rfl) (by kernel_rfl) rfl rfl hk9 hk9 (by simp)) ?_
    refine DR.done (by kernel_rfl) ?_
    refine z_ ?_
    exact RQ.upS (k + 1) () (Nat.lt_succ_self _) hk' trivial ⟨rfl, rfl, rfl, trivial⟩ (List.Perm.refl _) (List.Sublist.refl _)
  · (repeat refine RQ.thenExit ?_); refine RQ.blockHere ?_
    refine z_ ?_
    exact RQ.ret1 rfl (Res.tmp rfl) fun w' hm => ⟨rfl, hm.fr⟩
set_option maxRecDepth 10000 in set_option maxHeartbeats 4000000 in
theorem aSame_calls {ab rb : Nat} (y : AlP ab) (z : RlP rb) (he : y.s = z.s) (w : World) (h1 : Has y.L w) (h2 : Has z.L w) : Gives Tryz.prog 21 [.pointer (some ⟨ab, 0, none⟩), .pointer (some ⟨rb, 0, none⟩)] (.bool true) w := by
  refine enter Tryz.func21 rfl (Mem.nil w []) rfl ?_
  have ct1 := fun w' hw' => ATotal_calls y w' hw'
  have cl1 := fun w' hw' => ALeaving_calls y w' hw'
  have cr1 := fun w' hw' => ARoot_calls y w' hw'
  have ct2 := fun w' hw' => RTotal_calls z w' hw'
  have cl2 := fun w' hw' => RLeaving_calls z w' hw'
  have ctr := fun w' hw' => RTree_calls z w' hw'
  have hfin := acF_fin z.ok.ok
  have hR8 := nodeF_8 (acF_ok y.s.acs) 16 0
  have o1 : ∀ {L : Hp} {w' : World}, Mem w [] L w' → Has y.L w' := fun hm => h1.fr hm.fr
  have o2 : ∀ {L : Hp} {w' : World}, Mem w [] L w' → Has z.L w' := fun hm => h2.fr hm.fr
  rw [← he] at ct2 cl2 hfin ctr
  generalize IntKind.i64.wrap (totX y.s) = tt at ct1 ct2
  generalize IntKind.i64.wrap (leavX y.s) = lv at cl1 cl2
  refine z_ ?_
  refine Run.op1 (OpTo.cv Tryz.func25 (fun w' hm => ct1 w' (o1 hm))) (fun _ => ?_)
  refine z_ ?_
  refine Run.op1 (OpTo.cv Tryz.func52 (fun w' hm => ct2 w' (o2 hm))) (fun _ => ?_)
  refine z_ ?_
  refine Run.op1 (OpTo.cv Tryz.func27 (fun w' hm => cl1 w' (o1 hm))) (fun _ => ?_)
  refine z_ ?_
  refine Run.op1 (OpTo.cv Tryz.func53 (fun w' hm => cl2 w' (o2 hm))) (fun _ => ?_)
  refine z_ ?_
  refine Run.op1 (OpTo.cv Tryz.func26 (fun w' hm => cr1 w' (o1 hm))) (fun _ => ?_)
  refine z_ ?_
  have hz9 : ([] : Hp).Perm ([] ++ []) := List.Perm.refl _
  refine Run.op1 (OpTo.callT Tryz.func23 hz9 (fun w' hm => ctr w' (o2 hm))) ?_
  rintro ⟨⟨tb, d⟩, hd⟩
  dsimp only at hd ⊢
  have hdr : nodeF (lfF d.r) 16 0 = nodeF (acF y.s.acs) 16 0 := by rw [hd]; exact congrArg (fun F => nodeF F 16 0) hfin
  have cto := fun w' hw' => Top_calls d.r (by rw [hd]; exact fin_ok _) tb w' hw'
  rw [hdr] at cto
  generalize nodeF (acF y.s.acs) 16 0 = R at hR8 cto
  refine z_ ?_
  refine Run.op1 (OpTo.cv Tryz.func48 (fun w' hm => cto w' (d.lvW fun q hq => hm.has q (List.mem_append_left _ hq)))) (fun _ => ?_)
  refine Run.a (vnu 8 R hR8.1 (by kernel_rfl)) ?_
  refine z_ ?_
  have hc1 := z.cell h2 1
  change w.cell? ⟨rb, 1, none⟩ = some z.vT at hc1
  have hc2 := z.cell h2 2
  change w.cell? ⟨rb, 2, none⟩ = some z.vA at hc2
  have hs1 := z.hT.srcW (w := w) fun q hq => h2 q (List.mem_cons_of_mem _ (List.mem_append_left _ hq))
  have hs2 := z.hA.srcW (w := w) fun q hq => h2 q (List.mem_cons_of_mem _ (List.mem_append_right _ (List.mem_append_left _ hq)))
  rw [← he] at hs1 hs2
  have hll := y.ok.ok.len
  have hnd := y.ok.ok.nd
  have cg := fun i w' hw' => AGet_calls y i w' hw'
  obtain ⟨aT, cT, evT, hcT⟩ := hs1.shape
  obtain ⟨aA, cA, evA, hcA⟩ := hs2.shape
  rw [evT] at hc1 hs1
  rw [evA] at hc2 hs2
  clear evT evA ct1 cl1 cr1 ct2 cl2 ctr hfin hd hdr cto
  refine RC.up y.s.acs.length (D := Unit) (fun _ _ => True) (fun k _ => [(5, .int .i64 k), (1, .pointer (some ⟨rb, 0, none⟩)), (0, .pointer (some ⟨ab, 0, none⟩))]) (fun _ _ => []) 0 () (Nat.zero_le _) trivial ⟨rfl, rfl, rfl, trivial⟩ (List.nil_sublist _) ?_
  intro k _ hk _
  refine z_ ?_
  refine Run.a (vlo hc1) ?_
  refine z_ ?_
  (repeat refine RC.seq ?_); refine RC.wh rfl (fun h => RQ.next ?_) (fun h => ?_)
  · have hk' : k < y.s.acs.length := by have := of_decide_eq_true h; omega
    clear h
    obtain ⟨p, hp⟩ : ∃ p, y.s.acs[k]? = some p := ⟨_, List.getElem?_eq_getElem hk'⟩
    obtain ⟨adT, c1, hv1, _, _, hr1⟩ := hs1.pos (by omega)
    obtain ⟨adA, c2, hv2, _, _, hr2⟩ := hs2.pos (by omega)
    cases hv1
    cases hv2
    have hcp := hr1 k (.int .i64 p.1) (by unfold i64L; rw [List.getElem?_map, List.getElem?_map, hp]; rfl)
    have hg : acGet p.1 y.s.acs = some p.2 := acGet_at hnd hp
    have cgk := cg p.1
    rw [hg] at cgk
    have hal : (acC p.2.o p.2.am p.2.no).length = 10 := acC1_len p
    have hload : ∀ j u, (acC p.2.o p.2.am p.2.no)[j]? = some u → w.cell? ((adA.add (k * 10)).add j) = some u := fun j u hj => by
      rw [add_add]; exact hr2 _ u (rws_at acC1_len hp j u hj)
    have hk10 : HasK (List.replicate 8 .u8 ++ [.i64, .i64]) (acC p.2.o p.2.am p.2.no) := (HasK.u8n p.2.h8.1).append (.cons _ _ (.cons _ _ .nil))
    have oA := acC_one p.2.o p.2.am p.2.no
    change ∀ w', _ → Gives _ _ _ (.tuple #[.agg (acC p.2.o p.2.am p.2.no).toArray, .bool true]) w' at cgk
    generalize acC p.2.o p.2.am p.2.no = AC at hal hload hk10 oA cgk
    refine z_ ?_
    refine Run.a (vlo hc1) ?_
    refine z_ ?_
    refine Run.a (vix k hk' (adT.add k) (ha := by show adT.add (k * 1) = _; rw [Nat.mul_one])) ?_
    refine Run.a (vlo hcp) ?_
    refine Run.op1 (OpTo.cv Tryz.func54 (fun w' hm => cgk w' (o1 hm))) (fun _ => ?_)
    refine z_ ?_
    refine Run.nw nal ?_
    intro b6
    refine Run.op1 (osa AC.toArray oA (hs := hal) (hf := by kernel_rfl)) (fun _ => ?_)
    refine z_ ?_
    (repeat refine RC.seq ?_); refine RC.drawS mixed (N := 13) rfl ?_
    refine dt 0 ?_
    refine dt 1 ?_
    refine dt 2 ?_
    refine DR.t 3 rfl (vla (arr := AC.toArray) (hv := hal)) ?_
    refine dt 4 ?_
    refine dt 5 ?_
    refine dt 6 ?_
    refine DR.t 7 rfl (vlo hc2) ?_
    refine dt 8 ?_
    refine DR.t 9 rfl (vix k hk' (adA.add (k * 10))) ?_
    refine DR.t 10 rfl (vloA hload hal) ?_
    refine DR.t 11 rfl (Val.neC (p := true) (ks := List.replicate 8 .u8 ++ [.i64, .i64]) tabOk rfl rfl rfl (by kernel_rfl) (by kernel_rfl) rfl rfl hk10 hk10 (by simp)) ?_
    refine dt 12 ?_
    refine DR.done (by kernel_rfl) ?_
    refine z_ ?_
    exact RQ.upS (k + 1) () (Nat.lt_succ_self _) hk' trivial ⟨rfl, rfl, rfl, trivial⟩ (List.Perm.refl _) (List.nil_sublist _)
  · (repeat refine RQ.thenExit ?_); refine RQ.blockHere ?_
    refine z_ ?_
    exact RQ.ret1 rfl (Res.tmp rfl) fun w' hm => ⟨rfl, hm.fr⟩
end Go.Proofs.YtfhdfpejjgmdcaaGreatDoor
