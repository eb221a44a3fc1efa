import Derived.Test.YtfhdfpejjgmdcaaGreatDoorAcO
set_option linter.unusedSimpArgs false
set_option linter.unusedVariables false
/- account: the reference's ledger in memory; place. -/
namespace Go.Proofs.YtfhdfpejjgmdcaaGreatDoor
attribute [local irreducible] Go.Vc.Run Go.Vc.RC Go.Vc.RQ Go.Vc.DR Go.Vc.DOp
open Go Go.Vc Go.Sha
def acC1 (p : Int × AcD) : List Value := acC p.2.o p.2.am p.2.no
theorem acC1_len (p : Int × AcD) : (acC1 p).length = 10 := by unfold acC1 acC; rw [List.length_append, u8s_len, p.2.h8.1]; rfl
/-- The reference's ledger in memory. -/
structure RlP (rb : Nat) where
  vT : Value
  vA : Value
  vO : Value
  bT : Hp
  bA : Hp
  bO : Hp
  s : LS
  ok : LsOk s
  hT : Own 3 1 vT s.acs.length (i64L (s.acs.map (·.1))) bT
  hA : Own 79 10 vA s.acs.length (rws acC1 s.acs) bA
  hO : Own 66 9 vO s.out.length (rws OuD.c s.out) bO
def RlP.row {rb : Nat} (y : RlP rb) : Array Value := #[.int .i64 y.s.side, y.vT, y.vA, y.vO]
def RlP.L {rb : Nat} (y : RlP rb) : Hp := (rb, .cells y.row 31 (0, 0)) :: (y.bT ++ (y.bA ++ y.bO))
theorem RlP.cell {rb : Nat} (y : RlP rb) {w : World} (hw : Has y.L w) (k : Nat) : w.cell? ⟨rb, k, none⟩ = y.row[k]? := by
  rw [cell_of_row w rb k _ _ _ (hw _ List.mem_cons_self)]
/-- Where an account stands; -1. -/
def plX (i : Int) (l : Acs) : Int := match l.findIdx? (fun p => p.1 == i) with
  | some k => k
  | none => -1
theorem AcOk.len {l : Acs} (ok : AcOk l) : l.length ≤ 65536 := by
  have h := List.Nodup.length_le_of_subset ok.nd (l₂ := (List.range 65536).map fun n : Nat => (n : Int)) (fun a ha => by
    obtain ⟨p, hp, rfl⟩ := List.mem_map.1 ha
    have := ok.lt p hp
    exact List.mem_map.2 ⟨p.1.toNat, List.mem_range.2 (by omega), by omega⟩)
  rwa [List.length_map, List.length_map, List.length_range] at h
set_option maxRecDepth 10000 in set_option maxHeartbeats 4000000 in
theorem Rplace_calls {rb : Nat} (y : RlP rb) (i : Int) (w : World) (hw : Has y.L w) : Gives Tryz.prog 37 [.pointer (some ⟨rb, 0, none⟩), .int .i64 i] (.int .i64 (plX i y.s.acs)) w := by
  refine enter Tryz.func37 rfl (Mem.nil w []) rfl ?_
  have hc := y.cell hw 1
  change w.cell? ⟨rb, 1, none⟩ = some y.vT at hc
  have hs := y.hT.srcW (w := w) fun q hq => hw q (List.mem_cons_of_mem _ (List.mem_append_left _ hq))
  have hll := y.ok.ok.len
  obtain ⟨aT, cT, evT, hcT⟩ := hs.shape
  rw [evT] at hc hs
  clear evT
  generalize y.s.acs = l at hs hll hcT hc ⊢
  refine z_ ?_
  refine RC.up l.length (D := Unit) (fun k _ => ∀ (j : Nat) (p : Int × AcD), j < k → l[j]? = some p → p.1 ≠ i) (fun k _ => [(5, .int .i64 k), (1, .int .i64 i), (0, .pointer (some ⟨rb, 0, none⟩))]) (fun _ _ => []) 0 () (Nat.zero_le _) (fun j p h => by omega) ⟨rfl, rfl, rfl, trivial⟩ (List.Sublist.refl _) ?_
  intro k _ hk hno
  refine z_ ?_
  refine Run.a (vlo hc) ?_
  by_cases hk' : k < l.length
  · obtain ⟨p, hp⟩ : ∃ p, l[k]? = some p := ⟨_, List.getElem?_eq_getElem hk'⟩
    obtain ⟨ad, c', hv, hc', hl', hr⟩ := hs.pos (by omega)
    cases hv
    have hcp := hr k (.int .i64 p.1) (by unfold i64L; rw [List.getElem?_map, List.getElem?_map, hp]; rfl)
    refine z_ ?_
    refine Run.a (vlo hc) ?_
    refine z_ ?_
    refine Run.a (vix k hk' (ad.add k) (ha := by show ad.add (k * 1) = _; rw [Nat.mul_one])) ?_
    refine Run.a (vlo hcp) ?_
    by_cases he : p.1 = i
    · have e : plX i l = k := by
        unfold plX
        rw [show l.findIdx? (fun p => p.1 == i) = some k from by
          rw [List.findIdx?_eq_some_iff_getElem]
          refine ⟨hk', ?_, fun j hj => ?_⟩
          · rw [(List.getElem?_eq_some_iff.1 hp).2, he]; exact beq_self_eq_true i
          · have := hno j _ hj (List.getElem?_eq_getElem (by omega))
            simpa using this]
      rw [e]
      refine z_ ?_
      exact RQ.ret1 rfl (Res.tmp rfl) fun w' hm => ⟨rfl, hm.fr⟩
    · refine z_ ?_
      refine RQ.upS (k + 1) () (Nat.lt_succ_self _) hk' (fun j q hj hq => ?_) ⟨rfl, rfl, rfl, trivial⟩ (List.Perm.refl _) (List.Sublist.refl _)
      rcases Nat.lt_succ_iff_lt_or_eq.1 hj with hj | rfl
      · exact hno j q hj hq
      · rw [hp] at hq; cases hq; exact he
  · have hk9 : k = l.length := by omega
    have e : plX i l = -1 := by
      unfold plX
      rw [show l.findIdx? (fun p => p.1 == i) = none from by
        rw [List.findIdx?_eq_none_iff]
        intro q hq
        obtain ⟨j, hj⟩ := List.mem_iff_getElem?.1 hq
        have hjl := (List.getElem?_eq_some_iff.1 hj).1
        exact beq_eq_false_iff_ne.2 (hno j q (by omega) hj)]
    rw [e]
    refine z_ ?_
    exact RQ.ret1 rfl (Res.tmp rfl) fun w' hm => ⟨rfl, hm.fr⟩
end Go.Proofs.YtfhdfpejjgmdcaaGreatDoor

/- account: the reference's Get. -/
namespace Go.Proofs.YtfhdfpejjgmdcaaGreatDoor
attribute [local irreducible] Go.Vc.Run Go.Vc.RC Go.Vc.RQ Go.Vc.DR Go.Vc.DOp
open Go Go.Vc Go.Sha
theorem plX_cons (i : Int) (p : Int × AcD) (l : Acs) : plX i (p :: l) = if p.1 = i then 0 else if plX i l = -1 then -1 else plX i l + 1 := by
  unfold plX
  rw [List.findIdx?_cons]
  by_cases h : p.1 = i
  · rw [if_pos h, show (p.1 == i) = true from by rw [h]; exact beq_self_eq_true i]; rfl
  · rw [if_neg h, show (p.1 == i) = false from beq_eq_false_iff_ne.2 h]
    cases l.findIdx? (fun p => p.1 == i) with
    | none => rfl
    | some k =>
      show ((k + 1 : Nat) : Int) = if (k : Int) = -1 then -1 else (k : Int) + 1
      rw [if_neg (by omega)]
      omega
/-- Either it stands nowhere, or there. -/
theorem plX_get (i : Int) : ∀ l : Acs, (plX i l = -1 ∧ acGet i l = none) ∨ ∃ (k : Nat) (a : AcD), plX i l = k ∧ l[k]? = some (i, a) ∧ acGet i l = some a
  | [] => .inl ⟨rfl, rfl⟩
  | p :: l => by
    rw [plX_cons, acGet_cons]
    by_cases h : p.1 = i
    · rw [if_pos h, if_pos h]
      exact .inr ⟨0, p.2, rfl, by rw [← h]; rfl, rfl⟩
    · rw [if_neg h, if_neg h]
      rcases plX_get i l with ⟨h1, h2⟩ | ⟨k, a, h1, h2, h3⟩
      · exact .inl ⟨by rw [if_pos h1], h2⟩
      · exact .inr ⟨k + 1, a, by rw [h1, if_neg (by omega)]; omega, by rw [List.getElem?_cons_succ]; exact h2, h3⟩
set_option maxRecDepth 10000 in set_option maxHeartbeats 4000000 in
theorem RGet_calls {rb : Nat} (y : RlP rb) (i : Int) (w : World) (hw : Has y.L w) : Gives Tryz.prog 38 [.pointer (some ⟨rb, 0, none⟩), .int .i64 i] (.tuple #[.agg (acCells (acGet i y.s.acs)).toArray, .bool (acGet i y.s.acs).isSome]) w := by
  refine enter Tryz.func38 rfl (Mem.nil w []) rfl ?_
  have hc := y.cell hw 2
  change w.cell? ⟨rb, 2, none⟩ = some y.vA at hc
  have hs := y.hA.srcW (w := w) fun q hq => hw q (List.mem_cons_of_mem _ (List.mem_append_right _ (List.mem_append_left _ hq)))
  have hll := y.ok.ok.len
  have cp := fun w' hw' => Rplace_calls y i w' hw'
  obtain ⟨aT, cT, evT, hcT⟩ := hs.shape
  rw [evT] at hc hs
  clear evT
  have hp := plX_get i y.s.acs
  have z1 := acCells_len (acGet i y.s.acs)
  have n1 := acCells_one (acGet i y.s.acs)
  refine z_ ?_
  refine Run.nw nal ?_
  intro b4
  refine z_ ?_
  refine Run.op1 (OpTo.cv Tryz.func37 (fun w' hm => cp w' (fun q hq => hm.old (hw q hq)))) (fun _ => ?_)
  rcases hp with ⟨h1, h2⟩ | ⟨k, a, h1, h2, h3⟩
  · rw [h1, h2]
    rw [h2] at z1 n1
    refine z_ ?_
    refine Run.a (vbs (acCells none).toArray) ?_
    refine Run.op1 (osa (arr := ti79.zero.cells) (acCells none).toArray n1 (hs := z1)) (fun _ => ?_)
    refine z_ ?_
    exact RQ.ret2 rfl (Res.cellAll tabOk rfl rfl rfl m0 z1) (Res.tmp rfl) fun w' hm => ⟨rfl, hm.fr⟩
  · rw [h1, h3]
    rw [h3] at z1 n1
    generalize y.s.acs = l at hs hll hcT hc h2
    have hk' := (List.getElem?_eq_some_iff.1 h2).1
    obtain ⟨ad, c', hv, hc', hl', hr⟩ := hs.pos (by omega)
    cases hv
    have hload : ∀ j u, (acC a.o a.am a.no)[j]? = some u → w.cell? ((ad.add (k * 10)).add j) = some u := fun j u hj => by
      rw [add_add]; exact hr _ u (rws_at acC1_len h2 j u hj)
    have hal : (acC a.o a.am a.no).length = 10 := by simpa [acCells] using z1
    refine z_ ?_
    refine Run.a (vlo hc) ?_
    refine z_ ?_
    refine Run.a (vix k hk' (ad.add (k * 10))) ?_
    refine Run.a (vloA hload hal) ?_
    refine Run.op1 (osa (arr := ti79.zero.cells) (acC a.o a.am a.no).toArray n1 (hs := by rw [List.size_toArray, hal]; rfl)) (fun _ => ?_)
    refine z_ ?_
    exact RQ.ret2 rfl (Res.cellAll tabOk rfl rfl rfl m0 z1) (Res.tmp rfl) fun w' hm => ⟨rfl, hm.fr⟩
end Go.Proofs.YtfhdfpejjgmdcaaGreatDoor

/- account: the reference's MayForward. -/
namespace Go.Proofs.YtfhdfpejjgmdcaaGreatDoor
attribute [local irreducible] Go.Vc.Run Go.Vc.RC Go.Vc.RQ Go.Vc.DR Go.Vc.DOp
open Go Go.Vc Go.Sha
def mayF (sd ac : Int) (o : List Nat) (am : Int) : Prop := (0 ≤ sd ∧ sd < 8) ∧ (0 ≤ ac ∧ ac < 65536) ∧ o ≠ Z8 ∧ (1 ≤ am ∧ am ≤ maxM)
instance (sd ac : Int) (o : List Nat) (am : Int) : Decidable (mayF sd ac o am) := by unfold mayF; infer_instance
theorem fw_rd {o : List Nat} (h : o.length = 8) (sd ac am : Int) : rdAt ti3 (fwC sd ac o am).toArray 0 = some (.int .i64 sd) ∧ rdAt ti3 (fwC sd ac o am).toArray 1 = some (.int .i64 ac) ∧ rdAt ti3 (fwC sd ac o am).toArray 10 = some (.int .i64 am) ∧ (fwC sd ac o am).length = 11 := by
  obtain ⟨o0, o1, o2, o3, o4, o5, o6, o7, rfl⟩ := len8 h
  exact ⟨rfl, rfl, rfl, rfl⟩
theorem fw_o (sd ac am : Int) (o : List Nat) : ∀ j u, (u8s o)[j]? = some u → (fwC sd ac o am).toArray[2 + j]? = some u := fun j u hj => by
  rw [List.getElem?_toArray]
  unfold fwC
  rw [show 2 + j = j + 1 + 1 by omega, List.getElem?_cons_succ, List.getElem?_cons_succ, List.getElem?_append_left (List.getElem?_eq_some_iff.1 hj).1]
  exact hj
theorem fw_one (sd ac am : Int) (o : List Nat) : ∀ u ∈ fwC sd ac o am, u.oneCell' = true := by
  intro u hu
  unfold fwC at hu
  simp only [List.mem_cons, List.mem_append, List.not_mem_nil, or_false] at hu
  rcases hu with rfl | rfl | hu | rfl
  · rfl
  · rfl
  · exact u8s_one _ u hu
  · rfl
set_option maxRecDepth 10000 in set_option maxHeartbeats 4000000 in
theorem RMayF_calls (sd ac : Int) (o : List Nat) (ho : H8 o) (am : Int) (w : World) : Gives Tryz.prog 36 [.agg (fwC sd ac o am).toArray] (.bool (decide (mayF sd ac o am))) w := by
  refine enter Tryz.func36 rfl (Mem.nil w []) rfl ?_
  obtain ⟨r0, r1, r10, _⟩ := fw_rd ho.1 sd ac am
  have hou := fw_o sd ac am o
  have hno : ∀ {P : Prop}, (mayF sd ac o am → P) → ¬ P → decide (mayF sd ac o am) = false := fun h1 h2 => decide_eq_false (fun h => h2 (h1 h))
  have hM : maxM = 1125899906842624 := rfl
  have sO : (u8s o).length = 8 := by rw [u8s_len, ho.1]
  have c5 := fun w' => refZ_calls o ho.1 w'
  generalize fwC sd ac o am = F at r0 r1 r10 hou
  have hrd : ∀ {S0 : List Nat} {L : Hp} {b : Nat}, (b, Obj.cells F.toArray 35 (0, 0)) ∈ L → Rd w S0 L ⟨b, 2, none⟩ (u8s o) := fun hm => Rd.row hm hou
  refine z_ ?_
  refine Run.nw (nbx) ?_
  intro b1
  refine z_ ?_
  refine Run.a (vl (.int .i64 sd) (hv := r0)) ?_
  by_cases g1 : 0 ≤ sd
  case neg =>
    rw [hno (P := 0 ≤ sd) (fun h => h.1.1) g1]
    refine z_ ?_
    exact RQ.ret1 rfl (Res.tmp rfl) fun w' hm => ⟨rfl, hm.fr⟩
  refine z_ ?_
  refine Run.a (vl (.int .i64 sd) (hv := r0)) ?_
  by_cases g2 : sd < 8
  case neg =>
    rw [hno (P := sd < 8) (fun h => h.1.2) g2]
    refine z_ ?_
    exact RQ.ret1 rfl (Res.tmp rfl) fun w' hm => ⟨rfl, hm.fr⟩
  refine z_ ?_
  refine Run.a (vl (.int .i64 ac) (hv := r1)) ?_
  by_cases g3 : 0 ≤ ac
  case neg =>
    rw [hno (P := 0 ≤ ac) (fun h => h.2.1.1) g3]
    refine z_ ?_
    exact RQ.ret1 rfl (Res.tmp rfl) fun w' hm => ⟨rfl, hm.fr⟩
  refine z_ ?_
  refine Run.a (vl (.int .i64 ac) (hv := r1)) ?_
  by_cases g4 : ac < 65536
  case neg =>
    rw [hno (P := ac < 65536) (fun h => h.2.1.2) g4]
    refine z_ ?_
    exact RQ.ret1 rfl (Res.tmp rfl) fun w' hm => ⟨rfl, hm.fr⟩
  refine z_ ?_
  refine Run.a (Val.loadR tabOk (cs := u8s o) rfl rfl rfl rfl sO (hrd (by repeat (first | exact List.mem_cons_self | apply List.mem_cons_of_mem | apply List.mem_append_right)))) ?_
  refine Run.op1 (OpTo.cv Tryz.func45 (fun w' _ => c5 w')) (fun _ => ?_)
  by_cases g5 : o ≠ Z8
  case neg =>
    rw [hno (P := o ≠ Z8) (fun h => h.2.2.1) g5, show decide (o = List.replicate 8 0) = true from decide_eq_true (Decidable.not_not.1 g5)]
    refine z_ ?_
    exact RQ.ret1 rfl (Res.tmp rfl) fun w' hm => ⟨rfl, hm.fr⟩
  rw [show decide (o = List.replicate 8 0) = false from decide_eq_false g5]
  refine z_ ?_
  refine Run.a (vl (.int .i64 am) (hv := r10)) ?_
  by_cases g6 : 1 ≤ am
  case neg =>
    rw [hno (P := 1 ≤ am) (fun h => h.2.2.2.1) g6]
    refine z_ ?_
    exact RQ.ret1 rfl (Res.tmp rfl) fun w' hm => ⟨rfl, hm.fr⟩
  refine z_ ?_
  refine Run.a (vl (.int .i64 am) (hv := r10)) ?_
  rw [show decide (mayF sd ac o am) = decide (am ≤ 1125899906842624) from decide_eq_decide.2 ⟨fun h => h.2.2.2.2, fun h => ⟨⟨g1, g2⟩, ⟨g3, g4⟩, g5, ⟨g6, h⟩⟩⟩]
  refine z_ ?_
  exact RQ.ret1 rfl (Res.tmp rfl) fun w' hm => ⟨rfl, hm.fr⟩
end Go.Proofs.YtfhdfpejjgmdcaaGreatDoor

/- account: the reference's Credit. -/
namespace Go.Proofs.YtfhdfpejjgmdcaaGreatDoor
attribute [local irreducible] Go.Vc.Run Go.Vc.RC Go.Vc.RQ Go.Vc.DR Go.Vc.DOp
open Go Go.Vc Go.Sha
theorem acSet_new {i : Int} {a : AcD} : ∀ {l : Acs}, acGet i l = none → acSet i a l = l ++ [(i, a)]
  | [], _ => rfl
  | p :: l, h => by
    rw [acGet_cons] at h
    unfold acSet
    by_cases e : p.1 = i
    · rw [if_pos e] at h; cases h
    · rw [if_neg e] at h ⊢; rw [acSet_new h]; rfl
theorem acSet_at {i : Int} {a b : AcD} : ∀ {l : Acs} {k : Nat}, (l.map (·.1)).Nodup → l[k]? = some (i, a) → acSet i b l = l.set k (i, b)
  | [], _, _, h => by simp at h
  | p :: l, 0, _, h => by
    simp only [List.getElem?_cons_zero, Option.some.injEq] at h
    subst h
    unfold acSet
    rw [if_pos rfl]; rfl
  | p :: l, k + 1, nd, h => by
    rw [List.getElem?_cons_succ] at h
    rw [List.map_cons, List.nodup_cons] at nd
    have hne : p.1 ≠ i := fun e => nd.1 (by rw [e]; exact List.mem_map.2 ⟨_, List.mem_of_getElem? h, rfl⟩)
    unfold acSet
    rw [if_neg hne, acSet_at nd.2 h]; rfl
theorem acs_fst {l : Acs} {k : Nat} {i : Int} {a b : AcD} (h : l[k]? = some (i, a)) : (l.set k (i, b)).map (·.1) = l.map (·.1) := by
  rw [List.map_set]
  apply List.ext_getElem?
  intro j
  rw [List.getElem?_set]
  split
  · rename_i e
    subst e
    rw [List.getElem?_map, h, if_pos (by rw [List.length_map]; exact (List.getElem?_eq_some_iff.1 h).1)]; rfl
  · rfl
theorem acC_one (o : List Nat) (am no : Int) : ∀ u ∈ acC o am no, u.oneCell' = true := by
  intro u hu
  unfold acC at hu
  rcases List.mem_append.1 hu with hu | hu
  · exact u8s_one _ u hu
  · simp only [List.mem_cons, List.not_mem_nil, or_false] at hu
    rcases hu with rfl | rfl <;> rfl
theorem acC_set (o : List Nat) (h : o.length = 8) (am no x : Int) : acC o x no = (acC o am no).set 8 (.int .i64 x) ∧ acC o am x = (acC o am no).set 9 (.int .i64 x) := by
  obtain ⟨o0, o1, o2, o3, o4, o5, o6, o7, rfl⟩ := len8 h
  exact ⟨rfl, rfl⟩
theorem crOk_split {s : LS} {sd ac : Int} {o : List Nat} {am : Int} : crOk s sd ac o am ↔ sd = s.side ∧ mayF 0 ac o am ∧ (match acGet ac s.acs with | some a => a.am + am ≤ maxM | none => True) := by
  unfold crOk mayF
  constructor
  · rintro ⟨h1, h2, h3, h4, h5⟩
    exact ⟨h1, ⟨⟨by omega, by omega⟩, h2, h4, h3⟩, h5⟩
  · rintro ⟨h1, ⟨_, h2, h4, h3⟩, h5⟩
    exact ⟨h1, h2, h3, h4, h5⟩
set_option maxRecDepth 10000 in set_option maxHeartbeats 4000000 in
theorem RCredit_calls {rb : Nat} (y : RlP rb) (sd ac : Int) (o : List Nat) (ho : H8 o) (am : Int) (w : World) (hw : Has y.L w) (hnd : (y.L.map (·.1)).Nodup) :
    Turns Tryz.prog 9 [.pointer (some ⟨rb, 0, none⟩), .agg (fwC sd ac o am).toArray] w y.L (Y := {z : RlP rb // z.s = crS y.s sd ac o ho am}) (fun _ => .bool (decide (crOk y.s sd ac o am))) (fun z => z.1.L) := by
  refine enter Tryz.func9 rfl (Mem.init (S0 := y.L.map (·.1)) hw (fun p hp => List.mem_map_of_mem hp) hnd) rfl ?_
  obtain ⟨r0, r1, r10, rz⟩ := fw_rd ho.1 sd ac am
  have hou := fw_o sd ac am o
  have hon := fw_one sd ac am o
  have hwr : wrAt (fwC sd ac o am).toArray 0 (Value.cells (.int .i64 0)).toList = (fwC 0 ac o am).toArray := rfl
  have rz0 := (fw_rd ho.1 0 ac am).2.2.2
  have hbad : ¬ crOk y.s sd ac o am → crS y.s sd ac o ho am = y.s := fun h => if_neg h
  have sO : (u8s o).length = 8 := by rw [u8s_len, ho.1]
  have cm := fun w' => RMayF_calls 0 ac o ho am w'
  have cp := fun w' hw' => Rplace_calls y ac w' hw'
  generalize fwC 0 ac o am = G at hwr rz0 cm
  generalize fwC sd ac o am = F at r0 r1 r10 hou rz hon hwr
  have hrd : ∀ {S0 : List Nat} {L : Hp} {b : Nat}, (b, Obj.cells F.toArray 35 (0, 0)) ∈ L → Rd w S0 L ⟨b, 2, none⟩ (u8s o) := fun hm => Rd.row hm hou
  have hpl := plX_get ac y.s.acs
  have hll := y.ok.ok.len
  have e10 := ho.1
  refine z_ ?_
  refine Run.nw (nbx) ?_
  intro b3
  refine z_ ?_
  refine Run.a (vla (hv := rz)) ?_
  refine Run.nw nal ?_
  intro b5
  refine Run.op1 (osa (L' := (b3, Obj.cells F.toArray 35 (0, 0)) :: y.L) F.toArray hon (hs := rz) (hf := by kernel_rfl)) (fun _ => ?_)
  refine z_ ?_
  refine Run.op1 (os1 (off := 0) (v := .int .i64 0) (arr := F.toArray) (e := 35) (L' := (b3, Obj.cells F.toArray 35 (0, 0)) :: y.L) G.toArray (he := hwr) (hf := by rw [List.size_toArray, rz]; decide)) (fun _ => ?_)
  refine z_ ?_
  (repeat refine RC.seq ?_); refine RC.drawS mixed (N := 12) rfl ?_
  refine dt 0 ?_
  refine DR.t 1 rfl (vl (.int .i64 sd) (hm := (by repeat (first | exact List.mem_cons_self | apply List.mem_cons_of_mem | apply List.mem_append_right))) (hv := r0)) ?_
  refine dt 2 ?_
  refine dt 3 ?_
  refine dt 4 ?_
  refine DR.t 5 rfl (vl (.int .i64 y.s.side) (arr := y.row) (hm := (by repeat (first | exact List.mem_cons_self | apply List.mem_cons_of_mem | apply List.mem_append_right)))) ?_
  by_cases q1 : sd = y.s.side
  case neg =>
    have hno : ¬ crOk y.s sd ac o am := fun h => q1 h.1
    rw [decide_eq_false hno]
    refine DR.t 6 rfl (Val.nef) ?_
    refine dt 7 ?_
    refine DR.p 8 rfl ?_
    refine DR.cp 9 rfl ?_
    refine DR.p 10 rfl ?_
    refine dt 11 ?_
    refine DR.done (by kernel_rfl) ?_
    refine z_ ?_
    exact RQ.ret1 rfl (Res.tmp rfl) fun w' hm => Turns.of (Y := {z : RlP rb // z.s = crS y.s sd ac o ho am}) (V := fun _ => .bool false) (L' := fun z => z.1.L) (Lst := y.L) ⟨y, (hbad hno).symm⟩ hm (Lr := [(b5, Obj.cells G.toArray 35 (0, 0)), (b3, Obj.cells F.toArray 35 (0, 0))]) (perm_of fun f => by (simp only [List.map_append, List.map_cons, List.map_nil, List.sum_append, List.sum_cons, List.sum_nil] <;> omega))
  refine DR.t 6 rfl (Val.nes) ?_
  refine dt 7 ?_
  refine DR.t 8 rfl (vla (arr := G.toArray) (hm := (by repeat (first | exact List.mem_cons_self | apply List.mem_cons_of_mem | apply List.mem_append_right))) (hv := rz0)) ?_
  refine DR.c 9 (DOp.op1 rfl (OpTo.cv Tryz.func36 (fun w' _ => cm w')) (fun _ => ?_))
  by_cases q2 : mayF 0 ac o am
  case neg =>
    have hno : ¬ crOk y.s sd ac o am := fun h => q2 (crOk_split.1 h).2.1
    rw [decide_eq_false hno, decide_eq_false q2]
    refine dt 10 ?_
    refine dt 11 ?_
    refine DR.done (by kernel_rfl) ?_
    refine z_ ?_
    exact RQ.ret1 rfl (Res.tmp rfl) fun w' hm => Turns.of (Y := {z : RlP rb // z.s = crS y.s sd ac o ho am}) (V := fun _ => .bool false) (L' := fun z => z.1.L) (Lst := y.L) ⟨y, (hbad hno).symm⟩ hm (Lr := [(b5, Obj.cells G.toArray 35 (0, 0)), (b3, Obj.cells F.toArray 35 (0, 0))]) (perm_of fun f => by (simp only [List.map_append, List.map_cons, List.map_nil, List.sum_append, List.sum_cons, List.sum_nil] <;> omega))
  rw [decide_eq_true q2]
  refine dt 10 ?_
  refine dt 11 ?_
  refine DR.done (by kernel_rfl) ?_
  refine z_ ?_
  refine Run.a (vl (.int .i64 ac) (hm := (by repeat (first | exact List.mem_cons_self | apply List.mem_cons_of_mem | apply List.mem_append_right))) (hv := r1)) ?_
  refine Run.op1 (OpTo.cv Tryz.func37 (fun w' hm => cp w' (fun q hq => hm.has q (List.mem_cons_of_mem _ (List.mem_cons_of_mem _ hq))))) (fun _ => ?_)
  rcases hpl with ⟨h1, h2⟩ | ⟨k, a, h1, h2, h3⟩
  · have hyes : crOk y.s sd ac o am := crOk_split.2 ⟨q1, q2, by rw [h2]; trivial⟩
    have hto : crS y.s sd ac o ho am = { y.s with acs := y.s.acs ++ [(ac, ⟨o, am, 0, ho⟩)] } := by
      unfold crS crTo
      rw [if_pos hyes, h2]
      dsimp only
      rw [acSet_new h2]
    have hok := crS_ok y.ok sd ac o ho am
    have hlen : y.s.acs.length < 65536 := by
      have := hok.ok.len
      rw [hto] at this
      rw [List.length_append, List.length_singleton] at this; omega
    rw [hto] at hok
    rw [decide_eq_true hyes, hto, h1]
    clear cp hbad hyes hto h1
    obtain ⟨vT, vA, vO, bT, bA, bO, s, ok, hT, hA, hO⟩ := y
    dsimp only [RlP.L, RlP.row] at hw hnd hok hlen h2 hll q1 ⊢
    obtain ⟨aT, cT, rfl, hcT⟩ := hT.shape
    obtain ⟨aA, cA, rfl, hcA⟩ := hA.shape
    have eA : acC1 (ac, ⟨o, am, 0, ho⟩) = acC o am 0 := rfl
    have lA : (acC o am 0).length = 10 := acC1_len (ac, ⟨o, am, 0, ho⟩)
    have hpr : ((b5, Obj.cells G.toArray 35 (0, 0)) :: (b3, Obj.cells F.toArray 35 (0, 0)) :: (rb, Obj.cells #[.int .i64 s.side, .slice aT s.acs.length cT, .slice aA s.acs.length cA, vO] 31 (0, 0)) :: (bT ++ (bA ++ bO)) : Hp).Perm (bT ++ (bA ++ ((b5, Obj.cells G.toArray 35 (0, 0)) :: (b3, Obj.cells F.toArray 35 (0, 0)) :: (rb, Obj.cells #[.int .i64 s.side, .slice aT s.acs.length cT, .slice aA s.acs.length cA, vO] 31 (0, 0)) :: bO))) := (perm_of fun f => by (simp only [List.map_append, List.map_cons, List.map_nil, List.sum_append, List.sum_cons, List.sum_nil] <;> omega))
    refine z_ ?_
    refine RC.perm hpr ?_
    (repeat refine RC.seq ?_); refine RC.draw ((b5, Obj.cells G.toArray 35 (0, 0)) :: (b3, Obj.cells F.toArray 35 (0, 0)) :: (rb, Obj.cells #[.int .i64 s.side, .slice aT s.acs.length cT, .slice aA s.acs.length cA, vO] 31 (0, 0)) :: bO) mixed (N := 27) rfl ?_
    refine dt 0 ?_
    refine dt 1 ?_
    refine dt 2 ?_
    refine dt 3 ?_
    refine dt 4 ?_
    refine DR.t 5 rfl (vl (.slice aT s.acs.length cT) (arr := #[.int .i64 s.side, .slice aT s.acs.length cT, .slice aA s.acs.length cA, vO]) (hm := (by repeat (first | exact List.mem_cons_self | apply List.mem_cons_of_mem | apply List.mem_append_right)))) ?_
    refine dt 6 ?_
    refine DR.t 7 rfl (vl (.int .i64 ac) (hm := (by repeat (first | exact List.mem_cons_self | apply List.mem_cons_of_mem | apply List.mem_append_right))) (hv := r1)) ?_
    refine dt 10 ?_
    refine dt 11 ?_
    refine dt 12 ?_
    refine DR.t 13 rfl (vl (.slice aA s.acs.length cA) (arr := #[.int .i64 s.side, .slice aT s.acs.length cT, .slice aA s.acs.length cA, vO]) (hm := (by repeat (first | exact List.mem_cons_self | apply List.mem_cons_of_mem | apply List.mem_append_right)))) ?_
    refine dt 14 ?_
    refine DR.t 15 rfl (Val.loadR tabOk (cs := u8s o) rfl rfl rfl rfl sO (hrd (by repeat (first | exact List.mem_cons_self | apply List.mem_cons_of_mem | apply List.mem_append_right)))) ?_
    refine dt 16 ?_
    refine DR.t 17 rfl (vl (.int .i64 am) (hm := (by repeat (first | exact List.mem_cons_self | apply List.mem_cons_of_mem | apply List.mem_append_right))) (hv := r10)) ?_
    refine DR.t 18 rfl (vbs (acC o am 0).toArray (hf := by obtain ⟨o0, o1, o2, o3, o4, o5, o6, o7, rfl⟩ := len8 e10; kernel_rfl)) ?_
    refine DR.two (i := 8) (j := 19) (by kernel_rfl) ?_ ?_
    · refine DOp.op1 rfl (OpTo.new rfl rfl (nbsl #[.int .i64 ac] (by kernel_rfl))) ?_
      intro s1
      refine DR.two (i := 9) (j := 19) (by kernel_rfl) ?_ ?_
      · refine DOp.op1 rfl (OpTo.append (L1 := (s1, Obj.cells ([Value.int .i64 ac]).toArray 3 (0, 0)) :: (bA ++ ((b5, Obj.cells G.toArray 35 (0, 0)) :: (b3, Obj.cells F.toArray 35 (0, 0)) :: (rb, Obj.cells #[.int .i64 s.side, .slice aT s.acs.length cT, .slice aA s.acs.length cA, vO] 31 (0, 0)) :: bO))) tabOk hT (Src.at ⟨s1, 0, none⟩ 1 1 ([Value.int .i64 ac]) (rfl) (Rd.rowAll (arr := ([Value.int .i64 ac]).toArray) (e := 3) (fz := (0, 0)) (by repeat (first | exact List.mem_cons_self | apply List.mem_cons_of_mem | apply List.mem_append_right)))) rfl rfl rfl rfl rfl rfl rfl rfl rfl (perm_of fun f => by (simp only [List.map_append, List.map_cons, List.map_nil, List.sum_append, List.sum_cons, List.sum_nil] <;> omega)) (by simp [Value.oneCell']) (by unfold maxLen; omega) (by simp only [ti3]; omega)) ?_
        rintro ⟨⟨vA1, bA1⟩, hA1⟩
        dsimp only at hA1 ⊢
        refine DR.c 19 ?_
        refine DOp.op1 rfl (OpTo.new rfl rfl (nbsl (acC o am 0).toArray (fillS_1 10 _ (acC o am 0) lA))) ?_
        intro s2
        refine DR.c 20 (DOp.op1 rfl (OpTo.append (L1 := (s2, Obj.cells (acC o am 0).toArray 79 (0, 0)) :: (bA1 ++ ((s1, Obj.cells ([Value.int .i64 ac]).toArray 3 (0, 0)) :: ((b5, Obj.cells G.toArray 35 (0, 0)) :: (b3, Obj.cells F.toArray 35 (0, 0)) :: (rb, Obj.cells #[.int .i64 s.side, .slice aT s.acs.length cT, .slice aA s.acs.length cA, vO] 31 (0, 0)) :: bO)))) tabOk hA (Src.at ⟨s2, 0, none⟩ 1 1 (acC o am 0) (by rw [lA]; rfl) (Rd.rowAll (arr := (acC o am 0).toArray) (e := 79) (fz := (0, 0)) (by repeat (first | exact List.mem_cons_self | apply List.mem_cons_of_mem | apply List.mem_append_right)))) rfl rfl rfl rfl rfl rfl rfl rfl rfl (perm_of fun f => by (simp only [List.map_append, List.map_cons, List.map_nil, List.sum_append, List.sum_cons, List.sum_nil] <;> omega)) (acC_one o am 0) (by unfold maxLen; omega) (by simp only [ti79]; omega)) ?_)
        rintro ⟨⟨vH1, bH1⟩, hH1⟩
        dsimp only at hH1 ⊢
        obtain ⟨a8, k8, rfl, hk8⟩ := hA1.shape
        obtain ⟨a9, k9, rfl, hk9⟩ := hH1.shape
        refine dt 21 ?_
        refine dt 22 ?_
        refine DR.c 23 ?_
        refine DOp.op1 rfl (os1 (off := 1) (v := .slice a8 (s.acs.length + 1) k8) (arr := #[.int .i64 s.side, .slice aT s.acs.length cT, .slice aA s.acs.length cA, vO]) (e := 31) (L' := bA1 ++ (bH1 ++ ((s1, Obj.cells ([Value.int .i64 ac]).toArray 3 (0, 0)) :: (s2, Obj.cells (acC o am 0).toArray 79 (0, 0)) :: (b5, Obj.cells G.toArray 35 (0, 0)) :: (b3, Obj.cells F.toArray 35 (0, 0)) :: bO))) #[.int .i64 s.side, .slice a8 (s.acs.length + 1) k8, .slice aA s.acs.length cA, vO] (hL := (perm_of fun f => by (simp only [List.map_append, List.map_cons, List.map_nil, List.sum_append, List.sum_cons, List.sum_nil] <;> omega)))) (fun _ => ?_)
        refine DR.c 24 ?_
        refine DOp.vl rfl (Val.of rfl) ?_
        refine DR.c 25 ?_
        refine DOp.vl rfl (vf0) ?_
        refine DR.c 26 ?_
        refine DOp.op1 rfl (os1 (off := 2) (v := .slice a9 (s.acs.length + 1) k9) (arr := #[.int .i64 s.side, .slice a8 (s.acs.length + 1) k8, .slice aA s.acs.length cA, vO]) (e := 31) (L' := bA1 ++ (bH1 ++ ((s1, Obj.cells ([Value.int .i64 ac]).toArray 3 (0, 0)) :: (s2, Obj.cells (acC o am 0).toArray 79 (0, 0)) :: (b5, Obj.cells G.toArray 35 (0, 0)) :: (b3, Obj.cells F.toArray 35 (0, 0)) :: bO))) #[.int .i64 s.side, .slice a8 (s.acs.length + 1) k8, .slice a9 (s.acs.length + 1) k9, vO] (hL := (perm_of fun f => by (simp only [List.map_append, List.map_cons, List.map_nil, List.sum_append, List.sum_cons, List.sum_nil] <;> omega)))) (fun _ => ?_)
        refine DR.done (by kernel_rfl) ?_
        refine z_ ?_
        exact RQ.ret1 rfl (Res.tmp rfl) fun w' hm => Turns.of (Y := {z : RlP rb // z.s = { s with acs := s.acs ++ [(ac, ⟨o, am, 0, ho⟩)] }}) (V := fun _ => .bool true) (L' := fun z => z.1.L) (Lst := (rb, Obj.cells #[.int .i64 s.side, .slice aT s.acs.length cT, .slice aA s.acs.length cA, vO] 31 (0, 0)) :: (bT ++ (bA ++ bO))) ⟨⟨.slice a8 (s.acs.length + 1) k8, .slice a9 (s.acs.length + 1) k9, vO, bA1, bH1, bO, { s with acs := s.acs ++ [(ac, ⟨o, am, 0, ho⟩)] }, hok, by dsimp only; rw [List.length_append, List.map_append, i64L_app]; exact hA1, by dsimp only; rw [List.length_append, rws_app, rws_one, eA]; exact hH1, hO⟩, rfl⟩ hm (Lr := [(s1, Obj.cells ([Value.int .i64 ac]).toArray 3 (0, 0)), (s2, Obj.cells (acC o am 0).toArray 79 (0, 0)), (b5, Obj.cells G.toArray 35 (0, 0)), (b3, Obj.cells F.toArray 35 (0, 0))]) (by unfold RlP.L RlP.row; exact (perm_of fun f => by (simp only [List.map_append, List.map_cons, List.map_nil, List.sum_append, List.sum_cons, List.sum_nil] <;> omega)))
      · refine DOp.op1 rfl (OpTo.new rfl rfl (nbsl (acC o am 0).toArray (fillS_1 10 _ (acC o am 0) lA))) ?_
        intro s2
        refine DR.c 9 (DOp.op1 rfl (OpTo.append (L1 := (s2, Obj.cells (acC o am 0).toArray 79 (0, 0)) :: (s1, Obj.cells ([Value.int .i64 ac]).toArray 3 (0, 0)) :: (bA ++ ((b5, Obj.cells G.toArray 35 (0, 0)) :: (b3, Obj.cells F.toArray 35 (0, 0)) :: (rb, Obj.cells #[.int .i64 s.side, .slice aT s.acs.length cT, .slice aA s.acs.length cA, vO] 31 (0, 0)) :: bO))) tabOk hT (Src.at ⟨s1, 0, none⟩ 1 1 ([Value.int .i64 ac]) (rfl) (Rd.rowAll (arr := ([Value.int .i64 ac]).toArray) (e := 3) (fz := (0, 0)) (by repeat (first | exact List.mem_cons_self | apply List.mem_cons_of_mem | apply List.mem_append_right)))) rfl rfl rfl rfl rfl rfl rfl rfl rfl (perm_of fun f => by (simp only [List.map_append, List.map_cons, List.map_nil, List.sum_append, List.sum_cons, List.sum_nil] <;> omega)) (by simp [Value.oneCell']) (by unfold maxLen; omega) (by simp only [ti3]; omega)) ?_)
        rintro ⟨⟨vA1, bA1⟩, hA1⟩
        dsimp only at hA1 ⊢
        refine DR.c 20 (DOp.op1 rfl (OpTo.append (L1 := bA1 ++ ((s2, Obj.cells (acC o am 0).toArray 79 (0, 0)) :: (s1, Obj.cells ([Value.int .i64 ac]).toArray 3 (0, 0)) :: ((b5, Obj.cells G.toArray 35 (0, 0)) :: (b3, Obj.cells F.toArray 35 (0, 0)) :: (rb, Obj.cells #[.int .i64 s.side, .slice aT s.acs.length cT, .slice aA s.acs.length cA, vO] 31 (0, 0)) :: bO))) tabOk hA (Src.at ⟨s2, 0, none⟩ 1 1 (acC o am 0) (by rw [lA]; rfl) (Rd.rowAll (arr := (acC o am 0).toArray) (e := 79) (fz := (0, 0)) (by repeat (first | exact List.mem_cons_self | apply List.mem_cons_of_mem | apply List.mem_append_right)))) rfl rfl rfl rfl rfl rfl rfl rfl rfl (perm_of fun f => by (simp only [List.map_append, List.map_cons, List.map_nil, List.sum_append, List.sum_cons, List.sum_nil] <;> omega)) (acC_one o am 0) (by unfold maxLen; omega) (by simp only [ti79]; omega)) ?_)
        rintro ⟨⟨vH1, bH1⟩, hH1⟩
        dsimp only at hH1 ⊢
        obtain ⟨a8, k8, rfl, hk8⟩ := hA1.shape
        obtain ⟨a9, k9, rfl, hk9⟩ := hH1.shape
        refine dt 21 ?_
        refine dt 22 ?_
        refine DR.c 23 ?_
        refine DOp.op1 rfl (os1 (off := 1) (v := .slice a8 (s.acs.length + 1) k8) (arr := #[.int .i64 s.side, .slice aT s.acs.length cT, .slice aA s.acs.length cA, vO]) (e := 31) (L' := bA1 ++ (bH1 ++ ((s1, Obj.cells ([Value.int .i64 ac]).toArray 3 (0, 0)) :: (s2, Obj.cells (acC o am 0).toArray 79 (0, 0)) :: (b5, Obj.cells G.toArray 35 (0, 0)) :: (b3, Obj.cells F.toArray 35 (0, 0)) :: bO))) #[.int .i64 s.side, .slice a8 (s.acs.length + 1) k8, .slice aA s.acs.length cA, vO] (hL := (perm_of fun f => by (simp only [List.map_append, List.map_cons, List.map_nil, List.sum_append, List.sum_cons, List.sum_nil] <;> omega)))) (fun _ => ?_)
        refine DR.c 24 ?_
        refine DOp.vl rfl (Val.of rfl) ?_
        refine DR.c 25 ?_
        refine DOp.vl rfl (vf0) ?_
        refine DR.c 26 ?_
        refine DOp.op1 rfl (os1 (off := 2) (v := .slice a9 (s.acs.length + 1) k9) (arr := #[.int .i64 s.side, .slice a8 (s.acs.length + 1) k8, .slice aA s.acs.length cA, vO]) (e := 31) (L' := bA1 ++ (bH1 ++ ((s1, Obj.cells ([Value.int .i64 ac]).toArray 3 (0, 0)) :: (s2, Obj.cells (acC o am 0).toArray 79 (0, 0)) :: (b5, Obj.cells G.toArray 35 (0, 0)) :: (b3, Obj.cells F.toArray 35 (0, 0)) :: bO))) #[.int .i64 s.side, .slice a8 (s.acs.length + 1) k8, .slice a9 (s.acs.length + 1) k9, vO] (hL := (perm_of fun f => by (simp only [List.map_append, List.map_cons, List.map_nil, List.sum_append, List.sum_cons, List.sum_nil] <;> omega)))) (fun _ => ?_)
        refine DR.done (by kernel_rfl) ?_
        refine z_ ?_
        exact RQ.ret1 rfl (Res.tmp rfl) fun w' hm => Turns.of (Y := {z : RlP rb // z.s = { s with acs := s.acs ++ [(ac, ⟨o, am, 0, ho⟩)] }}) (V := fun _ => .bool true) (L' := fun z => z.1.L) (Lst := (rb, Obj.cells #[.int .i64 s.side, .slice aT s.acs.length cT, .slice aA s.acs.length cA, vO] 31 (0, 0)) :: (bT ++ (bA ++ bO))) ⟨⟨.slice a8 (s.acs.length + 1) k8, .slice a9 (s.acs.length + 1) k9, vO, bA1, bH1, bO, { s with acs := s.acs ++ [(ac, ⟨o, am, 0, ho⟩)] }, hok, by dsimp only; rw [List.length_append, List.map_append, i64L_app]; exact hA1, by dsimp only; rw [List.length_append, rws_app, rws_one, eA]; exact hH1, hO⟩, rfl⟩ hm (Lr := [(s1, Obj.cells ([Value.int .i64 ac]).toArray 3 (0, 0)), (s2, Obj.cells (acC o am 0).toArray 79 (0, 0)), (b5, Obj.cells G.toArray 35 (0, 0)), (b3, Obj.cells F.toArray 35 (0, 0))]) (by unfold RlP.L RlP.row; exact (perm_of fun f => by (simp only [List.map_append, List.map_cons, List.map_nil, List.sum_append, List.sum_cons, List.sum_nil] <;> omega)))
    · refine DOp.op1 rfl (OpTo.new rfl rfl (nbsl (acC o am 0).toArray (fillS_1 10 _ (acC o am 0) lA))) ?_
      intro s2
      refine DR.c 8 ?_
      refine DOp.op1 rfl (OpTo.new rfl rfl (nbsl #[.int .i64 ac] (by kernel_rfl))) ?_
      intro s1
      refine DR.c 9 (DOp.op1 rfl (OpTo.append (L1 := (s2, Obj.cells (acC o am 0).toArray 79 (0, 0)) :: (s1, Obj.cells ([Value.int .i64 ac]).toArray 3 (0, 0)) :: (bA ++ ((b5, Obj.cells G.toArray 35 (0, 0)) :: (b3, Obj.cells F.toArray 35 (0, 0)) :: (rb, Obj.cells #[.int .i64 s.side, .slice aT s.acs.length cT, .slice aA s.acs.length cA, vO] 31 (0, 0)) :: bO))) tabOk hT (Src.at ⟨s1, 0, none⟩ 1 1 ([Value.int .i64 ac]) (rfl) (Rd.rowAll (arr := ([Value.int .i64 ac]).toArray) (e := 3) (fz := (0, 0)) (by repeat (first | exact List.mem_cons_self | apply List.mem_cons_of_mem | apply List.mem_append_right)))) rfl rfl rfl rfl rfl rfl rfl rfl rfl (perm_of fun f => by (simp only [List.map_append, List.map_cons, List.map_nil, List.sum_append, List.sum_cons, List.sum_nil] <;> omega)) (by simp [Value.oneCell']) (by unfold maxLen; omega) (by simp only [ti3]; omega)) ?_)
      rintro ⟨⟨vA1, bA1⟩, hA1⟩
      dsimp only at hA1 ⊢
      refine DR.c 20 (DOp.op1 rfl (OpTo.append (L1 := bA1 ++ ((s2, Obj.cells (acC o am 0).toArray 79 (0, 0)) :: (s1, Obj.cells ([Value.int .i64 ac]).toArray 3 (0, 0)) :: ((b5, Obj.cells G.toArray 35 (0, 0)) :: (b3, Obj.cells F.toArray 35 (0, 0)) :: (rb, Obj.cells #[.int .i64 s.side, .slice aT s.acs.length cT, .slice aA s.acs.length cA, vO] 31 (0, 0)) :: bO))) tabOk hA (Src.at ⟨s2, 0, none⟩ 1 1 (acC o am 0) (by rw [lA]; rfl) (Rd.rowAll (arr := (acC o am 0).toArray) (e := 79) (fz := (0, 0)) (by repeat (first | exact List.mem_cons_self | apply List.mem_cons_of_mem | apply List.mem_append_right)))) rfl rfl rfl rfl rfl rfl rfl rfl rfl (perm_of fun f => by (simp only [List.map_append, List.map_cons, List.map_nil, List.sum_append, List.sum_cons, List.sum_nil] <;> omega)) (acC_one o am 0) (by unfold maxLen; omega) (by simp only [ti79]; omega)) ?_)
      rintro ⟨⟨vH1, bH1⟩, hH1⟩
      dsimp only at hH1 ⊢
      obtain ⟨a8, k8, rfl, hk8⟩ := hA1.shape
      obtain ⟨a9, k9, rfl, hk9⟩ := hH1.shape
      refine dt 21 ?_
      refine dt 22 ?_
      refine DR.c 23 ?_
      refine DOp.op1 rfl (os1 (off := 1) (v := .slice a8 (s.acs.length + 1) k8) (arr := #[.int .i64 s.side, .slice aT s.acs.length cT, .slice aA s.acs.length cA, vO]) (e := 31) (L' := bA1 ++ (bH1 ++ ((s1, Obj.cells ([Value.int .i64 ac]).toArray 3 (0, 0)) :: (s2, Obj.cells (acC o am 0).toArray 79 (0, 0)) :: (b5, Obj.cells G.toArray 35 (0, 0)) :: (b3, Obj.cells F.toArray 35 (0, 0)) :: bO))) #[.int .i64 s.side, .slice a8 (s.acs.length + 1) k8, .slice aA s.acs.length cA, vO] (hL := (perm_of fun f => by (simp only [List.map_append, List.map_cons, List.map_nil, List.sum_append, List.sum_cons, List.sum_nil] <;> omega)))) (fun _ => ?_)
      refine DR.c 24 ?_
      refine DOp.vl rfl (Val.of rfl) ?_
      refine DR.c 25 ?_
      refine DOp.vl rfl (vf0) ?_
      refine DR.c 26 ?_
      refine DOp.op1 rfl (os1 (off := 2) (v := .slice a9 (s.acs.length + 1) k9) (arr := #[.int .i64 s.side, .slice a8 (s.acs.length + 1) k8, .slice aA s.acs.length cA, vO]) (e := 31) (L' := bA1 ++ (bH1 ++ ((s1, Obj.cells ([Value.int .i64 ac]).toArray 3 (0, 0)) :: (s2, Obj.cells (acC o am 0).toArray 79 (0, 0)) :: (b5, Obj.cells G.toArray 35 (0, 0)) :: (b3, Obj.cells F.toArray 35 (0, 0)) :: bO))) #[.int .i64 s.side, .slice a8 (s.acs.length + 1) k8, .slice a9 (s.acs.length + 1) k9, vO] (hL := (perm_of fun f => by (simp only [List.map_append, List.map_cons, List.map_nil, List.sum_append, List.sum_cons, List.sum_nil] <;> omega)))) (fun _ => ?_)
      refine DR.done (by kernel_rfl) ?_
      refine z_ ?_
      exact RQ.ret1 rfl (Res.tmp rfl) fun w' hm => Turns.of (Y := {z : RlP rb // z.s = { s with acs := s.acs ++ [(ac, ⟨o, am, 0, ho⟩)] }}) (V := fun _ => .bool true) (L' := fun z => z.1.L) (Lst := (rb, Obj.cells #[.int .i64 s.side, .slice aT s.acs.length cT, .slice aA s.acs.length cA, vO] 31 (0, 0)) :: (bT ++ (bA ++ bO))) ⟨⟨.slice a8 (s.acs.length + 1) k8, .slice a9 (s.acs.length + 1) k9, vO, bA1, bH1, bO, { s with acs := s.acs ++ [(ac, ⟨o, am, 0, ho⟩)] }, hok, by dsimp only; rw [List.length_append, List.map_append, i64L_app]; exact hA1, by dsimp only; rw [List.length_append, rws_app, rws_one, eA]; exact hH1, hO⟩, rfl⟩ hm (Lr := [(s1, Obj.cells ([Value.int .i64 ac]).toArray 3 (0, 0)), (s2, Obj.cells (acC o am 0).toArray 79 (0, 0)), (b5, Obj.cells G.toArray 35 (0, 0)), (b3, Obj.cells F.toArray 35 (0, 0))]) (by unfold RlP.L RlP.row; exact (perm_of fun f => by (simp only [List.map_append, List.map_cons, List.map_nil, List.sum_append, List.sum_cons, List.sum_nil] <;> omega)))
  · have hk' := (List.getElem?_eq_some_iff.1 h2).1
    obtain ⟨vT, vA, vO, bT, bA, bO, s, ok, hT, hA, hO⟩ := y
    dsimp only [RlP.L, RlP.row] at hw hnd hbad h2 h3 hk' hll cp q1 ⊢
    obtain ⟨b, cap, rest, rfl, rfl, hcl, hn1, hn2, hcr⟩ := hA.pos (by omega)
    have hal := acC1_len (ac, a)
    have ham : (acC1 (ac, a))[8]? = some (.int .i64 a.am) := by
      obtain ⟨o0, o1, o2, o3, o4, o5, o6, o7, e⟩ := len8 a.h8.1
      unfold acC1; rw [show (ac, a).2.o = a.o from rfl, e]; rfl
    have a1 := ok.am _ (acGet_in h3)
    unfold maxM at a1
    dsimp only at a1
    have hq2 := q2.2.2.2
    unfold maxM at hq2
    rw [h1]
    refine z_ ?_
    (repeat refine RC.seq ?_); refine RC.drawS mixed (N := 12) rfl ?_
    refine dt 0 ?_
    refine dt 1 ?_
    refine dt 2 ?_
    refine DR.t 3 rfl (vl (.slice (some ⟨b, 0, none⟩) s.acs.length cap) (arr := #[.int .i64 s.side, vT, .slice (some ⟨b, 0, none⟩) s.acs.length cap, vO]) (hm := (by repeat (first | exact List.mem_cons_self | apply List.mem_cons_of_mem | apply List.mem_append_right)))) ?_
    refine dt 4 ?_
    refine DR.t 5 rfl (vix k hk' ⟨b, k * 10, none⟩) ?_
    refine dt 6 ?_
    refine DR.t 7 rfl (vl (.int .i64 a.am) (arr := (rws acC1 s.acs ++ rest).toArray) (e := 79) (fz := (0, 0)) (hm := (by repeat (first | exact List.mem_cons_self | apply List.mem_cons_of_mem | exact List.mem_append_left _ List.mem_cons_self | apply List.mem_append_right))) (hv := by exact rd_row acC1_len h2 ham)) ?_
    refine dt 8 ?_
    refine DR.t 9 rfl (vl (.int .i64 am) (hm := (by repeat (first | exact List.mem_cons_self | apply List.mem_cons_of_mem | apply List.mem_append_right))) (hv := r10)) ?_
    by_cases q4 : a.am + am ≤ 1125899906842624
    case neg =>
      have hno : ¬ crOk s sd ac o am := fun h => q4 (by have := h.2.2.2.2; rw [h3] at this; exact this)
      rw [hbad hno, decide_eq_false hno]
      refine dt 10 ?_
      refine DR.t 11 rfl (Val.eq (Val.of rfl) (show _ = Value.bool true from congrArg Value.bool (decide_eq_true (by omega)))) ?_
      refine DR.done (by kernel_rfl) ?_
      refine z_ ?_
      exact RQ.ret1 rfl (Res.tmp rfl) fun w' hm => Turns.of (Y := {z : RlP rb // z.s = s}) (V := fun _ => .bool false) (L' := fun z => z.1.L) (Lst := (rb, Obj.cells #[.int .i64 s.side, vT, .slice (some ⟨b, 0, none⟩) s.acs.length cap, vO] 31 (0, 0)) :: (bT ++ ([(b, Obj.cells (rws acC1 s.acs ++ rest).toArray 79 (0, 0))] ++ bO))) ⟨⟨vT, .slice (some ⟨b, 0, none⟩) s.acs.length cap, vO, bT, [(b, Obj.cells (rws acC1 s.acs ++ rest).toArray 79 (0, 0))], bO, s, ok, hT, hA, hO⟩, rfl⟩ hm (Lr := [(b5, Obj.cells G.toArray 35 (0, 0)), (b3, Obj.cells F.toArray 35 (0, 0))]) (by unfold RlP.L RlP.row; exact (perm_of fun f => by (simp only [List.map_append, List.map_cons, List.map_nil, List.sum_append, List.sum_cons, List.sum_nil] <;> omega)))
    have hyes : crOk s sd ac o am := crOk_split.2 ⟨q1, q2, by rw [h3]; exact q4⟩
    have hto : crS s sd ac o ho am = { s with acs := s.acs.set k (ac, { a with am := a.am + am }) } := by
      unfold crS crTo
      rw [if_pos hyes, h3]
      dsimp only
      rw [acSet_at ok.ok.nd h2]
    have hok := crS_ok ok sd ac o ho am
    rw [hto] at hok
    rw [decide_eq_true hyes, hto]
    refine dt 10 ?_
    refine DR.t 11 rfl (Val.eq (Val.of rfl) (show _ = Value.bool false from congrArg Value.bool (decide_eq_false (by omega)))) ?_
    refine DR.done (by kernel_rfl) ?_
    refine z_ ?_
    (repeat refine RC.seq ?_); refine RC.drawS mixed (N := 19) rfl ?_
    refine dt 0 ?_
    refine dt 1 ?_
    refine dt 2 ?_
    refine DR.t 3 rfl (vl (.slice (some ⟨b, 0, none⟩) s.acs.length cap) (arr := #[.int .i64 s.side, vT, .slice (some ⟨b, 0, none⟩) s.acs.length cap, vO]) (hm := (by repeat (first | exact List.mem_cons_self | apply List.mem_cons_of_mem | apply List.mem_append_right)))) ?_
    refine dt 4 ?_
    refine dt 5 ?_
    refine dt 6 ?_
    refine dt 7 ?_
    refine DR.t 8 rfl (vl (.slice (some ⟨b, 0, none⟩) s.acs.length cap) (arr := #[.int .i64 s.side, vT, .slice (some ⟨b, 0, none⟩) s.acs.length cap, vO]) (hm := (by repeat (first | exact List.mem_cons_self | apply List.mem_cons_of_mem | apply List.mem_append_right)))) ?_
    refine dt 9 ?_
    refine DR.t 10 rfl (vix k hk' ⟨b, k * 10, none⟩) ?_
    refine dt 11 ?_
    refine DR.t 12 rfl (vl (.int .i64 a.am) (arr := (rws acC1 s.acs ++ rest).toArray) (e := 79) (fz := (0, 0)) (hm := (by repeat (first | exact List.mem_cons_self | apply List.mem_cons_of_mem | exact List.mem_append_left _ List.mem_cons_self | apply List.mem_append_right))) (hv := by exact rd_row acC1_len h2 ham)) ?_
    refine dt 13 ?_
    refine DR.t 14 rfl (vl (.int .i64 am) (hm := (by repeat (first | exact List.mem_cons_self | apply List.mem_cons_of_mem | apply List.mem_append_right))) (hv := r10)) ?_
    refine dt 15 ?_
    refine DR.t 16 rfl (vix k hk' ⟨b, k * 10, none⟩) ?_
    refine dt 17 ?_
    refine DR.c 18 ?_
    refine DOp.op1 rfl (opk (rest := rest) (e := 79) (L' := (b5, Obj.cells G.toArray 35 (0, 0)) :: (b3, Obj.cells F.toArray 35 (0, 0)) :: (rb, Obj.cells #[.int .i64 s.side, vT, .slice (some ⟨b, 0, none⟩) s.acs.length cap, vO] 31 (0, 0)) :: (bT ++ bO)) acC1_len h2 (ac, { a with am := a.am + am }) 8 (.int .i64 (a.am + am)) (by decide) ((acC_set a.o a.h8.1 a.am a.no (a.am + am)).1) rfl rfl (hL := (perm_of fun f => by (simp only [List.map_append, List.map_cons, List.map_nil, List.sum_append, List.sum_cons, List.sum_nil] <;> omega)))) (fun _ => ?_)
    refine DR.done (by kernel_rfl) ?_
    refine z_ ?_
    exact RQ.ret1 rfl (Res.tmp rfl) fun w' hm => Turns.of (Y := {z : RlP rb // z.s = { s with acs := s.acs.set k (ac, { a with am := a.am + am }) }}) (V := fun _ => .bool true) (L' := fun z => z.1.L) (Lst := (rb, Obj.cells #[.int .i64 s.side, vT, .slice (some ⟨b, 0, none⟩) s.acs.length cap, vO] 31 (0, 0)) :: (bT ++ ([(b, Obj.cells (rws acC1 s.acs ++ rest).toArray 79 (0, 0))] ++ bO))) ⟨⟨vT, .slice (some ⟨b, 0, none⟩) s.acs.length cap, vO, bT, [(b, .cells (rws acC1 (s.acs.set k (ac, { a with am := a.am + am })) ++ rest).toArray 79 (0, 0))], bO, { s with acs := s.acs.set k (ac, { a with am := a.am + am }) }, hok, by dsimp only; rw [List.length_set, acs_fst h2]; exact hT, by
      have h5 := Own.row (e := 79) (sz := 10) b s.acs.length cap (rws acC1 (s.acs.set k (ac, { a with am := a.am + am }))) rest (by rw [rws_len acC1_len, List.length_set]) (by rw [← hcr, List.length_append, List.length_append, rws_len acC1_len, rws_len acC1_len, List.length_set]) hn1 hn2
      dsimp only
      rw [List.length_set]
      exact h5, hO⟩, rfl⟩ hm (Lr := [(b5, Obj.cells G.toArray 35 (0, 0)), (b3, Obj.cells F.toArray 35 (0, 0))]) (by unfold RlP.L RlP.row; exact (perm_of fun f => by (simp only [List.map_append, List.map_cons, List.map_nil, List.sum_append, List.sum_cons, List.sum_nil] <;> omega)))
end Go.Proofs.YtfhdfpejjgmdcaaGreatDoor

/- account: the reference's Do. -/
namespace Go.Proofs.YtfhdfpejjgmdcaaGreatDoor
attribute [local irreducible] Go.Vc.Run Go.Vc.RC Go.Vc.RQ Go.Vc.DR Go.Vc.DOp
open Go Go.Vc Go.Sha
theorem acC1_cells (i : Int) (f : AcD) : (acC1 (i, f))[8]? = some (.int .i64 f.am) ∧ (acC1 (i, f))[9]? = some (.int .i64 f.no) ∧ ∀ (j : Nat) (u : Value), (u8s f.o)[j]? = some u → (acC1 (i, f))[j]? = some u := by
  refine ⟨?_, ?_, fun j u hj => ?_⟩
  · obtain ⟨o0, o1, o2, o3, o4, o5, o6, o7, e⟩ := len8 f.h8.1
    unfold acC1; rw [show (i, f).2.o = f.o from rfl, e]; rfl
  · obtain ⟨o0, o1, o2, o3, o4, o5, o6, o7, e⟩ := len8 f.h8.1
    unfold acC1; rw [show (i, f).2.o = f.o from rfl, e]; rfl
  · unfold acC1 acC
    rw [List.getElem?_append_left (List.getElem?_eq_some_iff.1 hj).1]
    exact hj
theorem erX_at {s : LS} {t : SxD} {f : AcD} (h : maySx t) (hf : acGet t.fr s.acs = some f) (hn : ¬ (t.kd = 1 ∧ (acGet t.tt s.acs).isNone)) : erX s t = if t.z ≠ f.no then 13 else if ¬ (mokX s.side t ∧ checkT f.o (messX s.side t) t.z t.op t.sh t.pa = true) then 7 else if t.am > f.am ∨ t.kd = 1 ∧ toAm s t + t.am > maxM then 5 else if t.kd ≠ 1 ∧ s.out.length ≥ 16 then 18 else 0 := by
  unfold erX
  rw [if_neg (fun h' => h' h), hf]
  dsimp only
  rw [if_neg hn]
set_option maxRecDepth 10000 in set_option maxHeartbeats 4000000 in
theorem RDo_calls {rb : Nat} (y : RlP rb) (t : SxD) (w : World) (hw : Has y.L w) (hnd : (y.L.map (·.1)).Nodup) :
    Turns Tryz.prog 16 [.pointer (some ⟨rb, 0, none⟩), .agg t.c.toArray] w y.L (Y := {z : RlP rb // z.s = doX y.s t}) (fun _ => .int .i64 (erX y.s t)) (fun z => z.1.L) := by
  refine enter Tryz.func16 rfl (Mem.init (S0 := y.L.map (·.1)) hw (fun p hp => List.mem_map_of_mem hp) hnd) rfl ?_
  obtain ⟨r0, r1, r2, r11, r12⟩ := sx_rd t
  have hou := sx_ou t
  have hsg := sx_sg t
  have hsz : t.c.toArray.size = 293 := t.len
  have ssg : (sigC t.z t.op t.sh t.pa).length = 281 := by
    unfold sigC
    simp only [List.length_cons, List.length_append, u8s_len, t.h1.1, t.h2.1, t.h3.1]
  have cm := fun w' => RMay_calls t w'
  have cmess := fun w' => RMess_calls y.s.side t w'
  have cp1 := fun w' hw' => Rplace_calls y t.fr w' hw'
  have cp2 := fun w' hw' => Rplace_calls y t.tt w' hw'
  have hm8 := messX_8 y.s.side t
  generalize t.c = F at r0 r1 r2 r11 r12 hou hsg hsz cm cmess
  have hrd : ∀ {S0 : List Nat} {L : Hp} {b : Nat}, (b, Obj.cells F.toArray 41 (0, 0)) ∈ L → Rd w S0 L ⟨b, 3, none⟩ (u8s t.ou) := fun hm => Rd.row hm hou
  have hrs : ∀ {S0 : List Nat} {L : Hp} {b : Nat}, (b, Obj.cells F.toArray 41 (0, 0)) ∈ L → Rd w S0 L ⟨b, 12, none⟩ (sigC t.z t.op t.sh t.pa) := fun hm => Rd.row hm hsg
  have hsame : erX y.s t ≠ 0 → doX y.s t = y.s := fun h => if_pos h
  have hpf := plX_get t.fr y.s.acs
  have hpt := plX_get t.tt y.s.acs
  have hll := y.ok.ok.len
  refine z_ ?_
  refine Run.nw (nbx) ?_
  intro b3
  refine z_ ?_
  refine Run.a (vla (arr := F.toArray) (hv := hsz)) ?_
  refine Run.op1 (OpTo.cv Tryz.func14 (fun w' _ => cm w')) (fun _ => ?_)
  by_cases hmay : maySx t
  case neg =>
    have e4 : erX y.s t = 4 := if_pos hmay
    rw [decide_eq_false hmay, hsame (by rw [e4]; decide), e4]
    refine z_ ?_
    exact RQ.ret1 rfl (Res.tmp rfl) fun w' hm => Turns.of (Y := {z : RlP rb // z.s = y.s}) (V := fun _ => .int .i64 4) (L' := fun z => z.1.L) (Lst := y.L) ⟨y, rfl⟩ hm (Lr := [(b3, Obj.cells F.toArray 41 (0, 0))]) (perm_of fun f => by (simp only [List.map_append, List.map_cons, List.map_nil, List.sum_append, List.sum_cons, List.sum_nil] <;> omega))
  rw [decide_eq_true hmay]
  refine z_ ?_
  (repeat refine RC.seq ?_); refine RC.drawS mixed (N := 10) rfl ?_
  refine dt 0 ?_
  refine dt 1 ?_
  refine DR.t 2 rfl (vl (.int .i64 t.fr) (hm := (by repeat (first | exact List.mem_cons_self | apply List.mem_cons_of_mem | apply List.mem_append_right))) (hv := r1)) ?_
  refine dt 4 ?_
  refine dt 5 ?_
  refine DR.t 6 rfl (vl (.int .i64 t.tt) (hm := (by repeat (first | exact List.mem_cons_self | apply List.mem_cons_of_mem | apply List.mem_append_right))) (hv := r2)) ?_
  refine DR.c 3 (DOp.op1 rfl (OpTo.cv Tryz.func37 (fun w' hm => cp1 w' (fun q hq => hm.has q (List.mem_cons_of_mem _ hq)))) (fun _ => ?_))
  refine DR.c 7 (DOp.op1 rfl (OpTo.cv Tryz.func37 (fun w' hm => cp2 w' (fun q hq => hm.has q (List.mem_cons_of_mem _ hq)))) (fun _ => ?_))
  refine dt 8 ?_
  refine dt 9 ?_
  refine DR.done (by kernel_rfl) ?_
  rcases hpf with ⟨h1, h2⟩ | ⟨k, f, h1, h2, h3⟩
  · have e4 : erX y.s t = 19 := by unfold erX; rw [if_neg (fun h => h hmay), h2]
    rw [hsame (by rw [e4]; decide), e4, h1]
    refine z_ ?_
    exact RQ.ret1 rfl (Res.tmp rfl) fun w' hm => Turns.of (Y := {z : RlP rb // z.s = y.s}) (V := fun _ => .int .i64 19) (L' := fun z => z.1.L) (Lst := y.L) ⟨y, rfl⟩ hm (Lr := [(b3, Obj.cells F.toArray 41 (0, 0))]) (perm_of fun f => by (simp only [List.map_append, List.map_cons, List.map_nil, List.sum_append, List.sum_cons, List.sum_nil] <;> omega))
  by_cases hno : t.kd = 1 ∧ (acGet t.tt y.s.acs).isNone
  · have e4 : erX y.s t = 19 := by unfold erX; rw [if_neg (fun h => h hmay), h3]; dsimp only; rw [if_pos hno]
    obtain ⟨hk, hn⟩ := hno
    rw [hsame (by rw [e4]; decide), e4]
    rcases hpt with ⟨g1, g2⟩ | ⟨j, g, g1, g2, g3⟩
    · rw [g1]
      refine z_ ?_
      refine Run.a (vl (.int .i64 t.kd) (hm := (by repeat (first | exact List.mem_cons_self | apply List.mem_cons_of_mem | apply List.mem_append_right))) (hv := r0)) ?_
      refine z_ ?_
      exact RQ.ret1 rfl (Res.tmp rfl) fun w' hm => Turns.of (Y := {z : RlP rb // z.s = y.s}) (V := fun _ => .int .i64 19) (L' := fun z => z.1.L) (Lst := y.L) ⟨y, rfl⟩ hm (Lr := [(b3, Obj.cells F.toArray 41 (0, 0))]) (perm_of fun f => by (simp only [List.map_append, List.map_cons, List.map_nil, List.sum_append, List.sum_cons, List.sum_nil] <;> omega))
    · rw [g3] at hn; cases hn
  have hgo : ∀ (_ : t.kd = 1), ∃ (j : Nat) (g : AcD), plX t.tt y.s.acs = j ∧ y.s.acs[j]? = some (t.tt, g) ∧ acGet t.tt y.s.acs = some g := fun hk => by
    rcases hpt with ⟨g1, g2⟩ | hg
    · exact absurd ⟨hk, by rw [g2]; rfl⟩ hno
    · exact hg
  have herr := erX_at hmay h3 hno
  clear hpt cp1 cp2 hno
  have hk' := (List.getElem?_eq_some_iff.1 h2).1
  obtain ⟨ck8, ck9, cko⟩ := acC1_cells t.fr f
  have sF : (u8s f.o).length = 8 := by rw [u8s_len, f.h8.1]
  have hM : maxM = 1125899906842624 := rfl
  rw [h1]
  obtain ⟨Y, hY⟩ : ∃ Y : RlP rb, Y = y := ⟨_, rfl⟩
  obtain ⟨vT, vA, vO, bT, bA, bO, s, ok, hT, hA, hO⟩ := y
  have hYL : Y.L = (rb, Obj.cells #[.int .i64 s.side, vT, vA, vO] 31 (0, 0)) :: (bT ++ (bA ++ bO)) := by rw [hY]; rfl
  dsimp only at hnd hsame h2 h3 hk' hll herr hgo cmess hm8 ⊢
  change Has ((rb, Obj.cells #[.int .i64 s.side, vT, vA, vO] 31 (0, 0)) :: (bT ++ (bA ++ bO))) w at hw
  unfold RlP.L RlP.row at hnd ⊢
  dsimp only at hnd ⊢
  obtain ⟨b, cap, rest, rfl, rfl, hcl, hn1, hn2, hcr⟩ := hA.pos (by omega)
  obtain ⟨aO, cO, rfl, hcO⟩ := hO.shape
  have rdo : ∀ {S0 : List Nat} {L : Hp}, (b, Obj.cells (rws acC1 s.acs ++ rest).toArray 79 (0, 0)) ∈ L → Rd w S0 L ⟨b, k * 10, none⟩ (u8s f.o) := fun hm => Rd.row hm fun j u hj => rd_row acC1_len h2 (cko j u hj)
  have f1 := ok.am _ (acGet_in h3)
  have f2 := ok.no _ (acGet_in h3)
  rw [hM] at f1
  dsimp only at f1 f2
  have hta := hmay.1.2.1
  rw [hM] at hta
  refine RQ.next ?_
  refine RC.seq ?_
  refine RC.thenCut (Y := Unit) (fun _ => [(30, .bool false), (6, .int .i64 (plX t.tt s.acs)), (5, .int .i64 k), (3, .pointer (some ⟨b3, 0, none⟩)), (0, .pointer (some ⟨rb, 0, none⟩))]) (fun _ => (b3, Obj.cells F.toArray 41 (0, 0)) :: (rb, Obj.cells #[.int .i64 s.side, vT, (.slice (some ⟨b, 0, none⟩) s.acs.length cap), .slice aO s.out.length cO] 31 (0, 0)) :: (bT ++ ([(b, Obj.cells (rws acC1 s.acs ++ rest).toArray 79 (0, 0))] ++ bO))) ?_ (fun _ => ?_)
  · by_cases hk : t.kd = 1
    · obtain ⟨j, g, g1, g2, g3⟩ := hgo hk
      rw [g1]
      refine z_ ?_
      refine Run.a (vl (.int .i64 t.kd) (hm := (by repeat (first | exact List.mem_cons_self | apply List.mem_cons_of_mem | apply List.mem_append_right))) (hv := r0)) ?_
      refine z_ ?_
      exact RQ.toP () ⟨rfl, rfl, rfl, rfl, rfl, trivial⟩ (List.Perm.refl _) (List.Sublist.refl _)
    · refine z_ ?_
      refine Run.a (vl (.int .i64 t.kd) (hm := (by repeat (first | exact List.mem_cons_self | apply List.mem_cons_of_mem | apply List.mem_append_right))) (hv := r0)) ?_
      refine z_ ?_
      exact RQ.toP () ⟨rfl, rfl, rfl, rfl, rfl, trivial⟩ (List.Perm.refl _) (List.Sublist.refl _)
  refine RC.seq ?_
  obtain ⟨M, hMe⟩ : ∃ M, M = messX s.side t := ⟨_, rfl⟩
  rw [← hMe] at cmess hm8 herr
  have sM : (u8s M).toArray.size = 8 := by rw [List.size_toArray, u8s_len, hm8.1]
  obtain ⟨mok, hmok⟩ : ∃ mok, mok = decide (mokX s.side t) := ⟨_, rfl⟩
  rw [← hmok] at cmess
  refine RC.thenCut (Y := Nat) (fun b7 => [(8, .bool mok), (7, .pointer (some ⟨b7, 0, none⟩)), (6, .int .i64 (plX t.tt s.acs)), (5, .int .i64 k), (3, .pointer (some ⟨b3, 0, none⟩)), (0, .pointer (some ⟨rb, 0, none⟩))]) (fun b7 => (b7, Obj.cells (u8s M).toArray 33 (0, 0)) :: (b3, Obj.cells F.toArray 41 (0, 0)) :: (rb, Obj.cells #[.int .i64 s.side, vT, (.slice (some ⟨b, 0, none⟩) s.acs.length cap), .slice aO s.out.length cO] 31 (0, 0)) :: (bT ++ ([(b, Obj.cells (rws acC1 s.acs ++ rest).toArray 79 (0, 0))] ++ bO))) ?_ (fun b7 => ?_)
  · (repeat refine RC.seq ?_); refine RC.drawS mixed (N := 12) rfl ?_
    refine dt 0 ?_
    refine dt 1 ?_
    refine dt 2 ?_
    refine DR.t 3 rfl (vl (.int .i64 s.side) (arr := #[.int .i64 s.side, vT, (.slice (some ⟨b, 0, none⟩) s.acs.length cap), .slice aO s.out.length cO]) (hm := (by repeat (first | exact List.mem_cons_self | apply List.mem_cons_of_mem | apply List.mem_append_right)))) ?_
    refine DR.t 4 rfl (vla (arr := F.toArray) (hm := (by repeat (first | exact List.mem_cons_self | apply List.mem_cons_of_mem | apply List.mem_append_right))) (hv := hsz)) ?_
    refine DR.two (i := 5) (j := 9) (by kernel_rfl) ?_ ?_
    · refine DOp.op1 rfl (OpTo.cv Tryz.func12 (fun w' _ => cmess w')) (fun _ => ?_)
      refine dt 6 ?_
      refine dt 7 ?_
      refine dt 8 ?_
      refine DR.c 9 ?_
      refine DOp.op1 rfl (OpTo.new rfl rfl (nal)) ?_
      intro b7
      refine DR.c 10 ?_
      refine DOp.op1 rfl (osa (L' := (b3, Obj.cells F.toArray 41 (0, 0)) :: (rb, Obj.cells #[.int .i64 s.side, vT, (.slice (some ⟨b, 0, none⟩) s.acs.length cap), .slice aO s.out.length cO] 31 (0, 0)) :: (bT ++ ([(b, Obj.cells (rws acC1 s.acs ++ rest).toArray 79 (0, 0))] ++ bO))) (u8s M).toArray (u8s_one _) (hs := sM) (hf := by kernel_rfl)) (fun _ => ?_)
      refine dt 11 ?_
      refine DR.done (by kernel_rfl) ?_
      exact RQ.toP b7 ⟨rfl, rfl, rfl, rfl, rfl, rfl, trivial⟩ (List.Perm.refl _) (List.Sublist.refl _)
    · refine DOp.op1 rfl (OpTo.new rfl rfl (nal)) ?_
      intro b7
      refine DR.c 5 (DOp.op1 rfl (OpTo.cv Tryz.func12 (fun w' _ => cmess w')) (fun _ => ?_))
      refine dt 6 ?_
      refine dt 7 ?_
      refine dt 8 ?_
      refine DR.c 10 ?_
      refine DOp.op1 rfl (osa (L' := (b3, Obj.cells F.toArray 41 (0, 0)) :: (rb, Obj.cells #[.int .i64 s.side, vT, (.slice (some ⟨b, 0, none⟩) s.acs.length cap), .slice aO s.out.length cO] 31 (0, 0)) :: (bT ++ ([(b, Obj.cells (rws acC1 s.acs ++ rest).toArray 79 (0, 0))] ++ bO))) (u8s M).toArray (u8s_one _) (hs := sM) (hf := by kernel_rfl)) (fun _ => ?_)
      refine dt 11 ?_
      refine DR.done (by kernel_rfl) ?_
      exact RQ.toP b7 ⟨rfl, rfl, rfl, rfl, rfl, rfl, trivial⟩ (List.Perm.refl _) (List.Sublist.refl _)
  refine z_ ?_
  (repeat refine RC.seq ?_); refine RC.drawS mixed (N := 13) rfl ?_
  refine dt 0 ?_
  refine dt 1 ?_
  refine DR.t 2 rfl (vl (.int .i64 t.z) (hm := (by repeat (first | exact List.mem_cons_self | apply List.mem_cons_of_mem | apply List.mem_append_right))) (hv := r12)) ?_
  refine dt 3 ?_
  refine dt 4 ?_
  refine dt 5 ?_
  refine DR.t 6 rfl (vl (.slice (some ⟨b, 0, none⟩) s.acs.length cap) (arr := #[.int .i64 s.side, vT, (.slice (some ⟨b, 0, none⟩) s.acs.length cap), .slice aO s.out.length cO]) (hm := (by repeat (first | exact List.mem_cons_self | apply List.mem_cons_of_mem | apply List.mem_append_right)))) ?_
  refine dt 7 ?_
  refine DR.t 8 rfl (vix k hk' ⟨b, k * 10, none⟩) ?_
  refine dt 9 ?_
  refine DR.t 10 rfl (vl (.int .i64 f.no) (arr := (rws acC1 s.acs ++ rest).toArray) (e := 79) (fz := (0, 0)) (hm := (by repeat (first | exact List.mem_cons_self | apply List.mem_cons_of_mem | exact List.mem_append_left _ List.mem_cons_self | apply List.mem_append_right))) (hv := by exact rd_row acC1_len h2 ck9)) ?_
  by_cases hz : t.z = f.no
  case neg =>
    rw [if_pos hz] at herr
    rw [hsame (by rw [herr]; decide), herr]
    refine DR.t 11 rfl (Val.nef) ?_
    refine dt 12 ?_
    refine DR.done (by kernel_rfl) ?_
    refine z_ ?_
    exact RQ.ret1 rfl (Res.tmp rfl) fun w' hm => Turns.of (Y := {z : RlP rb // z.s = s}) (V := fun _ => .int .i64 13) (L' := fun z => z.1.L) (Lst := (rb, Obj.cells #[.int .i64 s.side, vT, (.slice (some ⟨b, 0, none⟩) s.acs.length cap), .slice aO s.out.length cO] 31 (0, 0)) :: (bT ++ ([(b, Obj.cells (rws acC1 s.acs ++ rest).toArray 79 (0, 0))] ++ bO))) ⟨Y, by rw [hY]⟩ hm (Lr := [(b7, Obj.cells (u8s M).toArray 33 (0, 0)), (b3, Obj.cells F.toArray 41 (0, 0))]) (by rw [hYL]; exact (perm_of fun f => by (simp only [List.map_append, List.map_cons, List.map_nil, List.sum_append, List.sum_cons, List.sum_nil] <;> omega)))
  rw [if_neg (fun h => h hz)] at herr
  refine DR.t 11 rfl (Val.nes) ?_
  refine dt 12 ?_
  refine DR.done (by kernel_rfl) ?_
  refine z_ ?_
  (repeat refine RC.seq ?_); refine RC.drawS mixed (N := 18) rfl ?_
  refine dt 0 ?_
  refine dt 1 ?_
  refine dt 2 ?_
  by_cases hmk : mokX s.side t
  case neg =>
    rw [if_pos (fun h => hmk h.1)] at herr
    rw [hsame (by rw [herr]; decide), herr]
    rw [show mok = false from by rw [hmok]; exact decide_eq_false hmk]
    refine DR.p 3 rfl ?_
    refine DR.p 4 rfl ?_
    refine DR.p 5 rfl ?_
    refine DR.p 6 rfl ?_
    refine DR.p 7 rfl ?_
    refine DR.p 8 rfl ?_
    refine DR.p 9 rfl ?_
    refine DR.p 10 rfl ?_
    refine DR.p 11 rfl ?_
    refine DR.p 12 rfl ?_
    refine DR.p 13 rfl ?_
    refine DR.cp 14 rfl ?_
    refine DR.p 15 rfl ?_
    refine dt 16 ?_
    refine dt 17 ?_
    refine DR.done (by kernel_rfl) ?_
    refine z_ ?_
    exact RQ.ret1 rfl (Res.tmp rfl) fun w' hm => Turns.of (Y := {z : RlP rb // z.s = s}) (V := fun _ => .int .i64 7) (L' := fun z => z.1.L) (Lst := (rb, Obj.cells #[.int .i64 s.side, vT, (.slice (some ⟨b, 0, none⟩) s.acs.length cap), .slice aO s.out.length cO] 31 (0, 0)) :: (bT ++ ([(b, Obj.cells (rws acC1 s.acs ++ rest).toArray 79 (0, 0))] ++ bO))) ⟨Y, by rw [hY]⟩ hm (Lr := [(b7, Obj.cells (u8s M).toArray 33 (0, 0)), (b3, Obj.cells F.toArray 41 (0, 0))]) (by rw [hYL]; exact (perm_of fun f => by (simp only [List.map_append, List.map_cons, List.map_nil, List.sum_append, List.sum_cons, List.sum_nil] <;> omega)))
  have ck := fun w' => CheckTree_calls f.o M t.z t.op t.sh t.pa f.h8.1 hm8.1 hm8.2 t.h1.1 t.h1.2 t.h2.1 t.h2.2 t.h3.1 t.h3.2 w'
  rw [show mok = true from by rw [hmok]; exact decide_eq_true hmk]
  refine dt 3 ?_
  refine dt 4 ?_
  refine dt 5 ?_
  refine DR.t 6 rfl (vl (.slice (some ⟨b, 0, none⟩) s.acs.length cap) (arr := #[.int .i64 s.side, vT, (.slice (some ⟨b, 0, none⟩) s.acs.length cap), .slice aO s.out.length cO]) (hm := (by repeat (first | exact List.mem_cons_self | apply List.mem_cons_of_mem | apply List.mem_append_right)))) ?_
  refine dt 7 ?_
  refine DR.t 8 rfl (vix k hk' ⟨b, k * 10, none⟩) ?_
  refine dt 9 ?_
  refine DR.t 10 rfl (Val.loadR tabOk (cs := u8s f.o) rfl rfl rfl rfl sF (rdo (by repeat (first | exact List.mem_cons_self | apply List.mem_cons_of_mem | exact List.mem_append_left _ List.mem_cons_self | apply List.mem_append_right)))) ?_
  refine DR.t 11 rfl (vla (arr := (u8s M).toArray) (hm := (by repeat (first | exact List.mem_cons_self | apply List.mem_cons_of_mem | apply List.mem_append_right))) (hv := sM)) ?_
  refine dt 12 ?_
  refine DR.t 13 rfl (Val.loadR tabOk (cs := sigC t.z t.op t.sh t.pa) rfl rfl rfl rfl ssg (hrs (by repeat (first | exact List.mem_cons_self | apply List.mem_cons_of_mem | apply List.mem_append_right)))) ?_
  refine DR.c 14 (DOp.op1 rfl (OpTo.cv Tryz.func47 (fun w' _ => ck w')) (fun _ => ?_))
  by_cases hch : checkT f.o M t.z t.op t.sh t.pa = true
  case neg =>
    rw [if_pos (fun h => hch h.2)] at herr
    rw [hsame (by rw [herr]; decide), herr]
    rw [show checkT f.o M t.z t.op t.sh t.pa = false from by simpa using hch]
    refine dt 15 ?_
    refine dt 16 ?_
    refine dt 17 ?_
    refine DR.done (by kernel_rfl) ?_
    refine z_ ?_
    exact RQ.ret1 rfl (Res.tmp rfl) fun w' hm => Turns.of (Y := {z : RlP rb // z.s = s}) (V := fun _ => .int .i64 7) (L' := fun z => z.1.L) (Lst := (rb, Obj.cells #[.int .i64 s.side, vT, (.slice (some ⟨b, 0, none⟩) s.acs.length cap), .slice aO s.out.length cO] 31 (0, 0)) :: (bT ++ ([(b, Obj.cells (rws acC1 s.acs ++ rest).toArray 79 (0, 0))] ++ bO))) ⟨Y, by rw [hY]⟩ hm (Lr := [(b7, Obj.cells (u8s M).toArray 33 (0, 0)), (b3, Obj.cells F.toArray 41 (0, 0))]) (by rw [hYL]; exact (perm_of fun f => by (simp only [List.map_append, List.map_cons, List.map_nil, List.sum_append, List.sum_cons, List.sum_nil] <;> omega)))
  rw [if_neg (fun h => h ⟨hmk, hch⟩)] at herr
  have hz8 := checkT_in hch
  rw [hch]
  refine dt 15 ?_
  refine dt 16 ?_
  refine dt 17 ?_
  refine DR.done (by kernel_rfl) ?_
  refine RQ.next ?_
  refine RC.condF rfl rfl ?_
  refine RC.seq ?_
  obtain ⟨qb, hqb⟩ : ∃ qb, qb = decide (t.am > f.am ∨ t.kd = 1 ∧ toAm s t + t.am > maxM) := ⟨_, rfl⟩
  refine RC.thenCut (Y := Unit) (fun _ => [(71, .bool qb), (7, .pointer (some ⟨b7, 0, none⟩)), (6, .int .i64 (plX t.tt s.acs)), (5, .int .i64 k), (3, .pointer (some ⟨b3, 0, none⟩)), (0, .pointer (some ⟨rb, 0, none⟩))]) (fun _ => (b7, Obj.cells (u8s M).toArray 33 (0, 0)) :: (b3, Obj.cells F.toArray 41 (0, 0)) :: (rb, Obj.cells #[.int .i64 s.side, vT, (.slice (some ⟨b, 0, none⟩) s.acs.length cap), .slice aO s.out.length cO] 31 (0, 0)) :: (bT ++ ([(b, Obj.cells (rws acC1 s.acs ++ rest).toArray 79 (0, 0))] ++ bO))) ?_ (fun _ => ?_)
  · (repeat refine RC.seq ?_); refine RC.drawS mixed (N := 31) rfl ?_
    refine dt 0 ?_
    refine DR.t 1 rfl (vl (.int .i64 t.am) (hm := (by repeat (first | exact List.mem_cons_self | apply List.mem_cons_of_mem | apply List.mem_append_right))) (hv := r11)) ?_
    refine dt 2 ?_
    refine dt 3 ?_
    refine dt 4 ?_
    refine DR.t 5 rfl (vl (.slice (some ⟨b, 0, none⟩) s.acs.length cap) (arr := #[.int .i64 s.side, vT, (.slice (some ⟨b, 0, none⟩) s.acs.length cap), .slice aO s.out.length cO]) (hm := (by repeat (first | exact List.mem_cons_self | apply List.mem_cons_of_mem | apply List.mem_append_right)))) ?_
    refine dt 6 ?_
    refine DR.t 7 rfl (vix k hk' ⟨b, k * 10, none⟩) ?_
    refine dt 8 ?_
    refine DR.t 9 rfl (vl (.int .i64 f.am) (arr := (rws acC1 s.acs ++ rest).toArray) (e := 79) (fz := (0, 0)) (hm := (by repeat (first | exact List.mem_cons_self | apply List.mem_cons_of_mem | exact List.mem_append_left _ List.mem_cons_self | apply List.mem_append_right))) (hv := by exact rd_row acC1_len h2 ck8)) ?_
    by_cases ha : t.am > f.am
    · rw [show qb = true from by rw [hqb]; exact decide_eq_true (.inl ha)]
      refine DR.t 10 rfl (Val.eq (Val.of rfl) (show _ = Value.bool true from congrArg Value.bool (decide_eq_true (by omega)))) ?_
      refine dt 11 ?_
      refine DR.p 12 rfl ?_
      refine DR.p 13 rfl ?_
      refine DR.p 14 rfl ?_
      refine DR.p 15 rfl ?_
      refine DR.p 16 rfl ?_
      refine DR.p 17 rfl ?_
      refine DR.p 18 rfl ?_
      refine DR.p 19 rfl ?_
      refine DR.p 20 rfl ?_
      refine DR.p 21 rfl ?_
      refine DR.p 22 rfl ?_
      refine DR.p 23 rfl ?_
      refine DR.p 24 rfl ?_
      refine DR.p 25 rfl ?_
      refine DR.p 26 rfl ?_
      refine DR.p 27 rfl ?_
      refine DR.p 28 rfl ?_
      refine dt 29 ?_
      refine dt 30 ?_
      refine DR.done (by kernel_rfl) ?_
      exact RQ.toP () ⟨rfl, rfl, rfl, rfl, rfl, rfl, trivial⟩ (List.Perm.refl _) (List.Sublist.refl _)
    refine DR.t 10 rfl (Val.eq (Val.of rfl) (show _ = Value.bool false from congrArg Value.bool (decide_eq_false (by omega)))) ?_
    refine dt 11 ?_
    refine dt 12 ?_
    refine DR.t 13 rfl (vl (.int .i64 t.kd) (hm := (by repeat (first | exact List.mem_cons_self | apply List.mem_cons_of_mem | apply List.mem_append_right))) (hv := r0)) ?_
    by_cases hk : t.kd = 1
    · obtain ⟨j, g, g1, g2, g3⟩ := hgo hk
      have hj' := (List.getElem?_eq_some_iff.1 g2).1
      have gm := ok.am _ (acGet_in g3)
      rw [hM] at gm
      dsimp only at gm
      obtain ⟨cg8, _, _⟩ := acC1_cells t.tt g
      have hto : toAm s t = g.am := by unfold toAm; rw [g3]
      rw [show qb = decide (1125899906842624 - t.am < g.am) from by rw [hqb, hto, hM]; exact decide_eq_decide.2 (by omega), g1]
      refine DR.t 14 rfl (Val.eqs) ?_
      refine dt 15 ?_
      refine dt 16 ?_
      refine dt 17 ?_
      refine dt 18 ?_
      refine DR.t 19 rfl (vl (.slice (some ⟨b, 0, none⟩) s.acs.length cap) (arr := #[.int .i64 s.side, vT, (.slice (some ⟨b, 0, none⟩) s.acs.length cap), .slice aO s.out.length cO]) (hm := (by repeat (first | exact List.mem_cons_self | apply List.mem_cons_of_mem | apply List.mem_append_right)))) ?_
      refine dt 20 ?_
      refine DR.t 21 rfl (vix j hj' ⟨b, j * 10, none⟩) ?_
      refine dt 22 ?_
      refine DR.t 23 rfl (vl (.int .i64 g.am) (arr := (rws acC1 s.acs ++ rest).toArray) (e := 79) (fz := (0, 0)) (hm := (by repeat (first | exact List.mem_cons_self | apply List.mem_cons_of_mem | exact List.mem_append_left _ List.mem_cons_self | apply List.mem_append_right))) (hv := by exact rd_row acC1_len g2 cg8)) ?_
      refine dt 24 ?_
      refine DR.t 25 rfl (vl (.int .i64 t.am) (hm := (by repeat (first | exact List.mem_cons_self | apply List.mem_cons_of_mem | apply List.mem_append_right))) (hv := r11)) ?_
      refine dt 26 ?_
      refine dt 27 ?_
      refine dt 28 ?_
      refine dt 29 ?_
      refine dt 30 ?_
      refine DR.done (by kernel_rfl) ?_
      exact RQ.toP () ⟨rfl, rfl, rfl, rfl, rfl, rfl, trivial⟩ (List.Perm.refl _) (List.Sublist.refl _)
    · rw [show qb = false from by rw [hqb]; exact decide_eq_false (fun h => h.elim ha fun h => hk h.1)]
      refine DR.t 14 rfl (Val.eqf) ?_
      refine dt 15 ?_
      refine DR.p 16 rfl ?_
      refine DR.p 17 rfl ?_
      refine DR.p 18 rfl ?_
      refine DR.p 19 rfl ?_
      refine DR.p 20 rfl ?_
      refine DR.p 21 rfl ?_
      refine DR.p 22 rfl ?_
      refine DR.p 23 rfl ?_
      refine DR.p 24 rfl ?_
      refine DR.p 25 rfl ?_
      refine DR.p 26 rfl ?_
      refine DR.p 27 rfl ?_
      refine dt 28 ?_
      refine dt 29 ?_
      refine dt 30 ?_
      refine DR.done (by kernel_rfl) ?_
      exact RQ.toP () ⟨rfl, rfl, rfl, rfl, rfl, rfl, trivial⟩ (List.Perm.refl _) (List.Sublist.refl _)
  cases hqq : qb with
  | true =>
    rw [hqq] at hqb
    rw [if_pos (of_decide_eq_true hqb.symm)] at herr
    rw [hsame (by rw [herr]; decide), herr]
    refine z_ ?_
    exact RQ.ret1 rfl (Res.tmp rfl) fun w' hm => Turns.of (Y := {z : RlP rb // z.s = s}) (V := fun _ => .int .i64 5) (L' := fun z => z.1.L) (Lst := (rb, Obj.cells #[.int .i64 s.side, vT, (.slice (some ⟨b, 0, none⟩) s.acs.length cap), .slice aO s.out.length cO] 31 (0, 0)) :: (bT ++ ([(b, Obj.cells (rws acC1 s.acs ++ rest).toArray 79 (0, 0))] ++ bO))) ⟨Y, by rw [hY]⟩ hm (Lr := [(b7, Obj.cells (u8s M).toArray 33 (0, 0)), (b3, Obj.cells F.toArray 41 (0, 0))]) (by rw [hYL]; exact (perm_of fun f => by (simp only [List.map_append, List.map_cons, List.map_nil, List.sum_append, List.sum_cons, List.sum_nil] <;> omega)))
  | false =>
  rw [hqq] at hqb
  have hq5 := of_decide_eq_false hqb.symm
  rw [if_neg hq5] at herr
  refine RC.condF rfl rfl ?_
  refine RC.seq ?_
  obtain ⟨qc, hqc⟩ : ∃ qc, qc = decide (t.kd ≠ 1 ∧ s.out.length ≥ 16) := ⟨_, rfl⟩
  refine RC.thenCut (Y := Unit) (fun _ => [(102, .bool qc), (7, .pointer (some ⟨b7, 0, none⟩)), (6, .int .i64 (plX t.tt s.acs)), (5, .int .i64 k), (3, .pointer (some ⟨b3, 0, none⟩)), (0, .pointer (some ⟨rb, 0, none⟩))]) (fun _ => (b7, Obj.cells (u8s M).toArray 33 (0, 0)) :: (b3, Obj.cells F.toArray 41 (0, 0)) :: (rb, Obj.cells #[.int .i64 s.side, vT, (.slice (some ⟨b, 0, none⟩) s.acs.length cap), .slice aO s.out.length cO] 31 (0, 0)) :: (bT ++ ([(b, Obj.cells (rws acC1 s.acs ++ rest).toArray 79 (0, 0))] ++ bO))) ?_ (fun _ => ?_)
  · by_cases hk : t.kd = 1
    · rw [show qc = false from by rw [hqc]; exact decide_eq_false (fun h => h.1 hk)]
      refine z_ ?_
      refine Run.a (vl (.int .i64 t.kd) (hm := (by repeat (first | exact List.mem_cons_self | apply List.mem_cons_of_mem | apply List.mem_append_right))) (hv := r0)) ?_
      refine z_ ?_
      exact RQ.toP () ⟨rfl, rfl, rfl, rfl, rfl, rfl, trivial⟩ (List.Perm.refl _) (List.Sublist.refl _)
    · have hk2 : t.kd = 2 := by
        rcases hmay.2 with hk0 | hk0
        · exact absurd hk0.1 hk
        · exact hk0.1
      rw [show qc = decide ((16 : Int) ≤ s.out.length) from by rw [hqc]; exact decide_eq_decide.2 (by omega)]
      refine z_ ?_
      refine Run.a (vl (.int .i64 t.kd) (hm := (by repeat (first | exact List.mem_cons_self | apply List.mem_cons_of_mem | apply List.mem_append_right))) (hv := r0)) ?_
      refine z_ ?_
      exact RQ.toP () ⟨rfl, rfl, rfl, rfl, rfl, rfl, trivial⟩ (List.Perm.refl _) (List.Sublist.refl _)
  cases hqq2 : qc with
  | true =>
    rw [hqq2] at hqc
    rw [if_pos (of_decide_eq_true hqc.symm)] at herr
    rw [hsame (by rw [herr]; decide), herr]
    refine z_ ?_
    exact RQ.ret1 rfl (Res.tmp rfl) fun w' hm => Turns.of (Y := {z : RlP rb // z.s = s}) (V := fun _ => .int .i64 18) (L' := fun z => z.1.L) (Lst := (rb, Obj.cells #[.int .i64 s.side, vT, (.slice (some ⟨b, 0, none⟩) s.acs.length cap), .slice aO s.out.length cO] 31 (0, 0)) :: (bT ++ ([(b, Obj.cells (rws acC1 s.acs ++ rest).toArray 79 (0, 0))] ++ bO))) ⟨Y, by rw [hY]⟩ hm (Lr := [(b7, Obj.cells (u8s M).toArray 33 (0, 0)), (b3, Obj.cells F.toArray 41 (0, 0))]) (by rw [hYL]; exact (perm_of fun f => by (simp only [List.map_append, List.map_cons, List.map_nil, List.sum_append, List.sum_cons, List.sum_nil] <;> omega)))
  | false =>
  rw [hqq2] at hqc
  have hq18 := of_decide_eq_false hqc.symm
  rw [if_neg hq18] at herr
  have edo : doX s t = (if t.kd = 1 then match acGet t.tt s.acs with
        | none => s
        | some g => { s with acs := acSet t.tt { g with am := g.am + t.am } (acSet t.fr { f with am := f.am - t.am, no := f.no + 1 } s.acs) }
      else { s with acs := acSet t.fr { f with am := f.am - t.am, no := f.no + 1 } s.acs, out := s.out ++ [⟨t.ou, t.am, t.h8⟩] }) := by
    unfold doX
    rw [if_neg (fun h => h herr), h3]
    dsimp only
    split <;> first | rfl | (cases acGet t.tt s.acs <;> rfl)
  have dok := doX_ok ok t
  rw [herr]
  clear hsame herr
  obtain ⟨f', hf'⟩ : ∃ f' : AcD, f' = { f with am := f.am - t.am } := ⟨_, rfl⟩
  obtain ⟨f'', hf''⟩ : ∃ f'' : AcD, f'' = { f with am := f.am - t.am, no := f.no + 1 } := ⟨_, rfl⟩
  have ss1 : (s.acs.set k (t.fr, f'))[k]? = some (t.fr, f') := by rw [List.getElem?_set_self hk']
  have ss2 : (s.acs.set k (t.fr, f')).set k (t.fr, f'') = acSet t.fr f'' s.acs := by rw [List.set_set, acSet_at ok.ok.nd h2]
  have hm8' : acC1 (t.fr, f') = (acC1 (t.fr, f)).set 8 (.int .i64 (f.am - t.am)) := by rw [hf']; exact (acC_set f.o f.h8.1 f.am f.no (f.am - t.am)).1
  have hm9' : acC1 (t.fr, f'') = (acC1 (t.fr, f')).set 9 (.int .i64 (f.no + 1)) := by rw [hf', hf'']; exact (acC_set f.o f.h8.1 (f.am - t.am) f.no (f.no + 1)).2
  have hpz : ((b7, Obj.cells (u8s M).toArray 33 (0, 0)) :: (b3, Obj.cells F.toArray 41 (0, 0)) :: (rb, Obj.cells #[.int .i64 s.side, vT, (.slice (some ⟨b, 0, none⟩) s.acs.length cap), .slice aO s.out.length cO] 31 (0, 0)) :: (bT ++ ([(b, Obj.cells (rws acC1 s.acs ++ rest).toArray 79 (0, 0))] ++ bO)) : Hp).Perm ((b, Obj.cells (rws acC1 s.acs ++ rest).toArray 79 (0, 0)) :: (b7, Obj.cells (u8s M).toArray 33 (0, 0)) :: (b3, Obj.cells F.toArray 41 (0, 0)) :: (rb, Obj.cells #[.int .i64 s.side, vT, (.slice (some ⟨b, 0, none⟩) s.acs.length cap), .slice aO s.out.length cO] 31 (0, 0)) :: (bT ++ bO)) := (perm_of fun f => by (simp only [List.map_append, List.map_cons, List.map_nil, List.sum_append, List.sum_cons, List.sum_nil] <;> omega))
  refine RC.condF rfl rfl ?_
  refine RC.skip ?_
  repeat (first | refine RQ.next ?_ | refine RQ.blockNormal ?_)
  refine RC.seq ?_
  refine RC.thenCut (Y := Unit) (fun _ => [(7, .pointer (some ⟨b7, 0, none⟩)), (6, .int .i64 (plX t.tt s.acs)), (5, .int .i64 k), (3, .pointer (some ⟨b3, 0, none⟩)), (0, .pointer (some ⟨rb, 0, none⟩))]) (fun _ => (b, Obj.cells (rws acC1 (acSet t.fr f'' s.acs) ++ rest).toArray 79 (0, 0)) :: (b7, Obj.cells (u8s M).toArray 33 (0, 0)) :: (b3, Obj.cells F.toArray 41 (0, 0)) :: (rb, Obj.cells #[.int .i64 s.side, vT, (.slice (some ⟨b, 0, none⟩) s.acs.length cap), .slice aO s.out.length cO] 31 (0, 0)) :: (bT ++ bO)) ?_ (fun _ => ?_)
  · refine RC.perm hpz ?_
    (repeat refine RC.seq ?_); refine RC.drawS mixed (N := 36) rfl ?_
    refine dt 0 ?_
    refine dt 1 ?_
    refine dt 2 ?_
    refine DR.t 3 rfl (vl (.slice (some ⟨b, 0, none⟩) s.acs.length cap) (arr := #[.int .i64 s.side, vT, (.slice (some ⟨b, 0, none⟩) s.acs.length cap), .slice aO s.out.length cO]) (hm := (by repeat (first | exact List.mem_cons_self | apply List.mem_cons_of_mem | apply List.mem_append_right)))) ?_
    refine dt 4 ?_
    refine dt 5 ?_
    refine dt 6 ?_
    refine dt 7 ?_
    refine DR.t 8 rfl (vl (.slice (some ⟨b, 0, none⟩) s.acs.length cap) (arr := #[.int .i64 s.side, vT, (.slice (some ⟨b, 0, none⟩) s.acs.length cap), .slice aO s.out.length cO]) (hm := (by repeat (first | exact List.mem_cons_self | apply List.mem_cons_of_mem | apply List.mem_append_right)))) ?_
    refine dt 9 ?_
    refine dt 10 ?_
    refine dt 11 ?_
    refine dt 12 ?_
    refine DR.t 13 rfl (vl (.slice (some ⟨b, 0, none⟩) s.acs.length cap) (arr := #[.int .i64 s.side, vT, (.slice (some ⟨b, 0, none⟩) s.acs.length cap), .slice aO s.out.length cO]) (hm := (by repeat (first | exact List.mem_cons_self | apply List.mem_cons_of_mem | apply List.mem_append_right)))) ?_
    refine dt 14 ?_
    refine DR.t 15 rfl (vix k hk' ⟨b, k * 10, none⟩) ?_
    refine dt 16 ?_
    refine DR.t 17 rfl (vl (.int .i64 f.am) (arr := (rws acC1 s.acs ++ rest).toArray) (e := 79) (fz := (0, 0)) (hm := (by repeat (first | exact List.mem_cons_self | apply List.mem_cons_of_mem | exact List.mem_append_left _ List.mem_cons_self | apply List.mem_append_right))) (hv := by exact rd_row acC1_len h2 ck8)) ?_
    refine dt 18 ?_
    refine DR.t 19 rfl (vl (.int .i64 t.am) (hm := (by repeat (first | exact List.mem_cons_self | apply List.mem_cons_of_mem | apply List.mem_append_right))) (hv := r11)) ?_
    refine dt 20 ?_
    refine dt 21 ?_
    refine dt 22 ?_
    refine dt 23 ?_
    refine DR.t 24 rfl (vl (.slice (some ⟨b, 0, none⟩) s.acs.length cap) (arr := #[.int .i64 s.side, vT, (.slice (some ⟨b, 0, none⟩) s.acs.length cap), .slice aO s.out.length cO]) (hm := (by repeat (first | exact List.mem_cons_self | apply List.mem_cons_of_mem | apply List.mem_append_right)))) ?_
    refine dt 25 ?_
    refine DR.t 26 rfl (vix k hk' ⟨b, k * 10, none⟩) ?_
    refine dt 27 ?_
    refine DR.t 28 rfl (vl (.int .i64 f.no) (arr := (rws acC1 s.acs ++ rest).toArray) (e := 79) (fz := (0, 0)) (hm := (by repeat (first | exact List.mem_cons_self | apply List.mem_cons_of_mem | exact List.mem_append_left _ List.mem_cons_self | apply List.mem_append_right))) (hv := by exact rd_row acC1_len h2 ck9)) ?_
    refine dt 29 ?_
    refine DR.t 30 rfl (vix k hk' ⟨b, k * 10, none⟩) ?_
    refine dt 31 ?_
    refine DR.c 32 ?_
    refine DOp.op1 rfl (opk (rest := rest) (e := 79) (L' := (b7, Obj.cells (u8s M).toArray 33 (0, 0)) :: (b3, Obj.cells F.toArray 41 (0, 0)) :: (rb, Obj.cells #[.int .i64 s.side, vT, (.slice (some ⟨b, 0, none⟩) s.acs.length cap), .slice aO s.out.length cO] 31 (0, 0)) :: (bT ++ bO)) acC1_len h2 (t.fr, f') 8 (.int .i64 (f.am - t.am)) (by decide) hm8' rfl rfl) (fun _ => ?_)
    refine DR.c 33 ?_
    refine DOp.vl rfl (vix k hk' ⟨b, k * 10, none⟩) ?_
    refine DR.c 34 ?_
    refine DOp.vl rfl (vf) ?_
    refine DR.c 35 ?_
    refine DOp.op1 rfl (opk (rest := rest) (e := 79) (L' := (b7, Obj.cells (u8s M).toArray 33 (0, 0)) :: (b3, Obj.cells F.toArray 41 (0, 0)) :: (rb, Obj.cells #[.int .i64 s.side, vT, (.slice (some ⟨b, 0, none⟩) s.acs.length cap), .slice aO s.out.length cO] 31 (0, 0)) :: (bT ++ bO)) acC1_len ss1 (t.fr, f'') 9 (.int .i64 (f.no + 1)) (by decide) hm9' rfl rfl) (fun _ => ?_)
    refine DR.done (by kernel_rfl) ?_
    rw [ss2]
    exact RQ.toP () ⟨rfl, rfl, rfl, rfl, rfl, trivial⟩ (List.Perm.refl _) (List.Sublist.refl _)
  have hl2 : (acSet t.fr f'' s.acs).length = s.acs.length := by rw [← ss2, List.length_set, List.length_set]
  have hfst : (acSet t.fr f'' s.acs).map (·.1) = s.acs.map (·.1) := by rw [← ss2, List.set_set]; exact acs_fst h2
  rw [edo, ← hf''] at dok ⊢
  by_cases hk : t.kd = 1
  · obtain ⟨j, g, g1, g2, g3⟩ := hgo hk
    have hj' := (List.getElem?_eq_some_iff.1 g2).1
    have gm := ok.am _ (acGet_in g3)
    rw [hM] at gm
    dsimp only at gm
    have hto : toAm s t = g.am := by unfold toAm; rw [g3]
    have hgs : g.am + t.am ≤ 1125899906842624 := by
      have := fun h => hq5 (.inr ⟨hk, h⟩)
      rw [hto, hM] at this
      omega
    have hne : t.tt ≠ t.fr := by
      rcases hmay.2 with hk0 | hk0
      · exact hk0.2.2.1
      · omega
    have hkj : k ≠ j := fun e => hne (by rw [e, g2] at h2; simpa using congrArg Prod.fst (Option.some.inj h2))
    have g2' : (acSet t.fr f'' s.acs)[j]? = some (t.tt, g) := by rw [← ss2, List.set_set, List.getElem?_set_ne hkj, g2]
    have hnd2 : ((acSet t.fr f'' s.acs).map (·.1)).Nodup := by rw [hfst]; exact ok.ok.nd
    have hj2 : j < s.acs.length := hj'
    obtain ⟨cg8, _, _⟩ := acC1_cells t.tt g
    obtain ⟨g', hg'⟩ : ∃ g' : AcD, g' = { g with am := g.am + t.am } := ⟨_, rfl⟩
    have hg8' : acC1 (t.tt, g') = (acC1 (t.tt, g)).set 8 (.int .i64 (g.am + t.am)) := by rw [hg']; exact (acC_set g.o g.h8.1 g.am g.no (g.am + t.am)).1
    have hl3 : (acSet t.tt g' (acSet t.fr f'' s.acs)).length = s.acs.length := by rw [acSet_at hnd2 g2', List.length_set, hl2]
    have hfst3 : (acSet t.tt g' (acSet t.fr f'' s.acs)).map (·.1) = s.acs.map (·.1) := by rw [acSet_at hnd2 g2', acs_fst g2', hfst]
    rw [if_pos hk, g3] at dok ⊢
    dsimp only at dok ⊢
    rw [← hg'] at dok ⊢
    rw [g1]
    refine z_ ?_
    refine Run.a (vl (.int .i64 t.kd) (hm := (by repeat (first | exact List.mem_cons_self | apply List.mem_cons_of_mem | apply List.mem_append_right))) (hv := r0)) ?_
    refine z_ ?_
    (repeat refine RC.seq ?_); refine RC.drawS mixed (N := 19) rfl ?_
    refine dt 0 ?_
    refine dt 1 ?_
    refine dt 2 ?_
    refine DR.t 3 rfl (vl (.slice (some ⟨b, 0, none⟩) s.acs.length cap) (arr := #[.int .i64 s.side, vT, (.slice (some ⟨b, 0, none⟩) s.acs.length cap), .slice aO s.out.length cO]) (hm := (by repeat (first | exact List.mem_cons_self | apply List.mem_cons_of_mem | apply List.mem_append_right)))) ?_
    refine dt 4 ?_
    refine dt 5 ?_
    refine dt 6 ?_
    refine dt 7 ?_
    refine DR.t 8 rfl (vl (.slice (some ⟨b, 0, none⟩) s.acs.length cap) (arr := #[.int .i64 s.side, vT, (.slice (some ⟨b, 0, none⟩) s.acs.length cap), .slice aO s.out.length cO]) (hm := (by repeat (first | exact List.mem_cons_self | apply List.mem_cons_of_mem | apply List.mem_append_right)))) ?_
    refine dt 9 ?_
    refine DR.t 10 rfl (vix j hj' ⟨b, j * 10, none⟩) ?_
    refine dt 11 ?_
    refine DR.t 12 rfl (vl (.int .i64 g.am) (arr := (rws acC1 (acSet t.fr f'' s.acs) ++ rest).toArray) (e := 79) (fz := (0, 0)) (hm := (by repeat (first | exact List.mem_cons_self | apply List.mem_cons_of_mem | exact List.mem_append_left _ List.mem_cons_self | apply List.mem_append_right))) (hv := by exact rd_row acC1_len g2' cg8)) ?_
    refine dt 13 ?_
    refine DR.t 14 rfl (vl (.int .i64 t.am) (hm := (by repeat (first | exact List.mem_cons_self | apply List.mem_cons_of_mem | apply List.mem_append_right))) (hv := r11)) ?_
    refine dt 15 ?_
    refine DR.t 16 rfl (vix j hj' ⟨b, j * 10, none⟩) ?_
    refine dt 17 ?_
    refine DR.c 18 ?_
    refine DOp.op1 rfl (opk (rest := rest) (e := 79) (L' := (b7, Obj.cells (u8s M).toArray 33 (0, 0)) :: (b3, Obj.cells F.toArray 41 (0, 0)) :: (rb, Obj.cells #[.int .i64 s.side, vT, (.slice (some ⟨b, 0, none⟩) s.acs.length cap), .slice aO s.out.length cO] 31 (0, 0)) :: (bT ++ bO)) acC1_len g2' (t.tt, g') 8 (.int .i64 (g.am + t.am)) (by decide) hg8' rfl rfl) (fun _ => ?_)
    refine DR.done (by kernel_rfl) ?_
    rw [← acSet_at hnd2 g2']
    refine z_ ?_
    exact RQ.ret1 rfl (Res.tmp rfl) fun w' hm => Turns.of (Y := {z : RlP rb // z.s = { s with acs := acSet t.tt g' (acSet t.fr f'' s.acs) }}) (V := fun _ => .int .i64 0) (L' := fun z => z.1.L) (Lst := (rb, Obj.cells #[.int .i64 s.side, vT, (.slice (some ⟨b, 0, none⟩) s.acs.length cap), .slice aO s.out.length cO] 31 (0, 0)) :: (bT ++ ([(b, Obj.cells (rws acC1 s.acs ++ rest).toArray 79 (0, 0))] ++ bO))) ⟨⟨vT, (.slice (some ⟨b, 0, none⟩) s.acs.length cap), .slice aO s.out.length cO, bT, [(b, .cells (rws acC1 (acSet t.tt g' (acSet t.fr f'' s.acs)) ++ rest).toArray 79 (0, 0))], bO, { s with acs := acSet t.tt g' (acSet t.fr f'' s.acs) }, dok, by dsimp only; rw [hl3, hfst3]; exact hT, by
      have h5 := Own.row (e := 79) (sz := 10) b s.acs.length cap (rws acC1 (acSet t.tt g' (acSet t.fr f'' s.acs))) rest (by rw [rws_len acC1_len, hl3]) (by rw [← hcr, List.length_append, List.length_append, rws_len acC1_len, rws_len acC1_len, hl3]) hn1 hn2
      dsimp only
      rw [hl3]
      exact h5, hO⟩, rfl⟩ hm (Lr := [(b7, Obj.cells (u8s M).toArray 33 (0, 0)), (b3, Obj.cells F.toArray 41 (0, 0))]) (by unfold RlP.L RlP.row; exact (perm_of fun f => by (simp only [List.map_append, List.map_cons, List.map_nil, List.sum_append, List.sum_cons, List.sum_nil] <;> omega)))
  · have hk2 : t.kd = 2 := by
      rcases hmay.2 with hk0 | hk0
      · exact absurd hk0.1 hk
      · exact hk0.1
    rw [if_neg hk] at dok ⊢
    have hol := ok.ol
    have ho : s.out.length < 16 := by
      have := fun h => hq18 ⟨hk, h⟩
      omega
    obtain ⟨O9, hO9⟩ : ∃ O9 : OuD, O9 = ⟨t.ou, t.am, t.h8⟩ := ⟨_, rfl⟩
    have cO9 : OuD.c O9 = u8s t.ou ++ [.int .i64 t.am] := by rw [hO9]; rfl
    have sO : (u8s t.ou).length = 8 := by rw [u8s_len, t.h8.1]
    have e8 := t.h8.1
    rw [← hO9] at dok ⊢
    refine z_ ?_
    refine Run.a (vl (.int .i64 t.kd) (hm := (by repeat (first | exact List.mem_cons_self | apply List.mem_cons_of_mem | apply List.mem_append_right))) (hv := r0)) ?_
    refine z_ ?_
    (repeat refine RC.seq ?_); refine RC.draw ([(b7, Obj.cells (u8s M).toArray 33 (0, 0)), (b3, Obj.cells F.toArray 41 (0, 0)), (rb, Obj.cells #[.int .i64 s.side, vT, (.slice (some ⟨b, 0, none⟩) s.acs.length cap), .slice aO s.out.length cO] 31 (0, 0))]) mixed (N := 16) rfl ?_
    refine dt 0 ?_
    refine dt 1 ?_
    refine dt 2 ?_
    refine dt 3 ?_
    refine DR.t 4 rfl (vl (.slice aO s.out.length cO) (arr := #[.int .i64 s.side, vT, (.slice (some ⟨b, 0, none⟩) s.acs.length cap), .slice aO s.out.length cO]) (hm := (by repeat (first | exact List.mem_cons_self | apply List.mem_cons_of_mem | exact List.mem_append_left _ List.mem_cons_self | apply List.mem_append_right)))) ?_
    refine dt 6 ?_
    refine DR.t 7 rfl (Val.loadR tabOk (cs := u8s t.ou) rfl rfl rfl rfl sO (hrd (by repeat (first | exact List.mem_cons_self | apply List.mem_cons_of_mem | exact List.mem_append_left _ List.mem_cons_self | apply List.mem_append_right)))) ?_
    refine dt 8 ?_
    refine DR.t 9 rfl (vl (.int .i64 t.am) (hm := (by repeat (first | exact List.mem_cons_self | apply List.mem_cons_of_mem | exact List.mem_append_left _ List.mem_cons_self | apply List.mem_append_right))) (hv := r11)) ?_
    refine DR.t 10 rfl (vbs (OuD.c O9).toArray (hf := by rw [cO9]; obtain ⟨e0, e1, e2, e3, e4, e5, e6, e7, heq⟩ := len8 e8; rw [heq]; kernel_rfl)) ?_
    refine DR.two (i := 5) (j := 11) (by kernel_rfl) ?_ ?_
    · refine DOp.op1 rfl (OpTo.append (L1 := (b, Obj.cells (rws acC1 (acSet t.fr f'' s.acs) ++ rest).toArray 79 (0, 0)) :: (b7, Obj.cells (u8s M).toArray 33 (0, 0)) :: (b3, Obj.cells F.toArray 41 (0, 0)) :: (rb, Obj.cells #[.int .i64 s.side, vT, (.slice (some ⟨b, 0, none⟩) s.acs.length cap), .slice aO s.out.length cO] 31 (0, 0)) :: (bT ++ bO)) tabOk (Own.nil (e := 66)) (hO.src (fun q hq => by repeat (first | exact hq | apply List.mem_cons_of_mem | apply List.mem_append_right))) rfl rfl rfl rfl rfl rfl rfl rfl rfl (perm_of fun f => by (simp only [List.map_append, List.map_cons, List.map_nil, List.sum_append, List.sum_cons, List.sum_nil] <;> omega)) (rws_one' fun a _ => a.one) (by unfold maxLen; omega) (by simp only [ti66]; omega)) ?_
      rintro ⟨⟨vN, bN⟩, hN⟩
      simp only [Nat.zero_add, List.nil_append] at hN
      dsimp only at hN ⊢
      refine DR.c 11 ?_
      refine DOp.op1 rfl (OpTo.new rfl rfl (nbsl (OuD.c O9).toArray (fillS_1 9 _ (OuD.c O9) O9.len))) ?_
      intro s2
      refine DR.c 12 (DOp.op1 rfl (OpTo.append (L1 := (s2, Obj.cells (OuD.c O9).toArray 66 (0, 0)) :: (b, Obj.cells (rws acC1 (acSet t.fr f'' s.acs) ++ rest).toArray 79 (0, 0)) :: (b7, Obj.cells (u8s M).toArray 33 (0, 0)) :: (b3, Obj.cells F.toArray 41 (0, 0)) :: (rb, Obj.cells #[.int .i64 s.side, vT, (.slice (some ⟨b, 0, none⟩) s.acs.length cap), .slice aO s.out.length cO] 31 (0, 0)) :: (bT ++ bO)) tabOk hN (Src.at ⟨s2, 0, none⟩ 1 1 (OuD.c O9) (by rw [O9.len]; rfl) (Rd.rowAll (arr := (OuD.c O9).toArray) (e := 66) (fz := (0, 0)) (by repeat (first | exact List.mem_cons_self | apply List.mem_cons_of_mem | exact List.mem_append_left _ List.mem_cons_self | apply List.mem_append_right)))) rfl rfl rfl rfl rfl rfl rfl rfl rfl (perm_of fun f => by (simp only [List.map_append, List.map_cons, List.map_nil, List.sum_append, List.sum_cons, List.sum_nil] <;> omega)) O9.one (by unfold maxLen; omega) (by simp only [ti66]; omega)) ?_)
      rintro ⟨⟨vM, bM⟩, hMM⟩
      dsimp only at hMM ⊢
      obtain ⟨a8, k8, rfl, hk8⟩ := hMM.shape
      refine dt 13 ?_
      refine dt 14 ?_
      refine DR.c 15 ?_
      refine DOp.op1 rfl (os1 (off := 3) (v := .slice a8 (s.out.length + 1) k8) (arr := #[.int .i64 s.side, vT, (.slice (some ⟨b, 0, none⟩) s.acs.length cap), .slice aO s.out.length cO]) (e := 31) (L' := bM ++ ((s2, Obj.cells (OuD.c O9).toArray 66 (0, 0)) :: (b, Obj.cells (rws acC1 (acSet t.fr f'' s.acs) ++ rest).toArray 79 (0, 0)) :: (b7, Obj.cells (u8s M).toArray 33 (0, 0)) :: (b3, Obj.cells F.toArray 41 (0, 0)) :: (bT ++ bO))) #[.int .i64 s.side, vT, (.slice (some ⟨b, 0, none⟩) s.acs.length cap), .slice a8 (s.out.length + 1) k8] (hL := (perm_of fun f => by (simp only [List.map_append, List.map_cons, List.map_nil, List.sum_append, List.sum_cons, List.sum_nil] <;> omega)))) (fun _ => ?_)
      refine DR.done (by kernel_rfl) ?_
      refine z_ ?_
      exact RQ.ret1 rfl (Res.tmp rfl) fun w' hm => Turns.of (Y := {z : RlP rb // z.s = { s with acs := acSet t.fr f'' s.acs, out := s.out ++ [O9] }}) (V := fun _ => .int .i64 0) (L' := fun z => z.1.L) (Lst := (rb, Obj.cells #[.int .i64 s.side, vT, (.slice (some ⟨b, 0, none⟩) s.acs.length cap), .slice aO s.out.length cO] 31 (0, 0)) :: (bT ++ ([(b, Obj.cells (rws acC1 s.acs ++ rest).toArray 79 (0, 0))] ++ bO))) ⟨⟨vT, (.slice (some ⟨b, 0, none⟩) s.acs.length cap), .slice a8 (s.out.length + 1) k8, bT, [(b, Obj.cells (rws acC1 (acSet t.fr f'' s.acs) ++ rest).toArray 79 (0, 0))], bM, { s with acs := acSet t.fr f'' s.acs, out := s.out ++ [O9] }, dok, by dsimp only; rw [hl2, hfst]; exact hT, by
        have h5 := Own.row (e := 79) (sz := 10) b s.acs.length cap (rws acC1 (acSet t.fr f'' s.acs)) rest (by rw [rws_len acC1_len, hl2]) (by rw [← hcr, List.length_append, List.length_append, rws_len acC1_len, rws_len acC1_len, hl2]) hn1 hn2
        dsimp only
        rw [hl2]
        exact h5, by dsimp only; rw [List.length_append, rws_app, rws_one]; exact hMM⟩, rfl⟩ hm (Lr := (s2, Obj.cells (OuD.c O9).toArray 66 (0, 0)) :: (b7, Obj.cells (u8s M).toArray 33 (0, 0)) :: (b3, Obj.cells F.toArray 41 (0, 0)) :: bO) (by unfold RlP.L RlP.row; exact (perm_of fun f => by (simp only [List.map_append, List.map_cons, List.map_nil, List.sum_append, List.sum_cons, List.sum_nil] <;> omega)))
    · refine DOp.op1 rfl (OpTo.new rfl rfl (nbsl (OuD.c O9).toArray (fillS_1 9 _ (OuD.c O9) O9.len))) ?_
      intro s2
      refine DR.c 5 (DOp.op1 rfl (OpTo.append (L1 := (s2, Obj.cells (OuD.c O9).toArray 66 (0, 0)) :: (b, Obj.cells (rws acC1 (acSet t.fr f'' s.acs) ++ rest).toArray 79 (0, 0)) :: (b7, Obj.cells (u8s M).toArray 33 (0, 0)) :: (b3, Obj.cells F.toArray 41 (0, 0)) :: (rb, Obj.cells #[.int .i64 s.side, vT, (.slice (some ⟨b, 0, none⟩) s.acs.length cap), .slice aO s.out.length cO] 31 (0, 0)) :: (bT ++ bO)) tabOk (Own.nil (e := 66)) (hO.src (fun q hq => by repeat (first | exact hq | apply List.mem_cons_of_mem | apply List.mem_append_right))) rfl rfl rfl rfl rfl rfl rfl rfl rfl (perm_of fun f => by (simp only [List.map_append, List.map_cons, List.map_nil, List.sum_append, List.sum_cons, List.sum_nil] <;> omega)) (rws_one' fun a _ => a.one) (by unfold maxLen; omega) (by simp only [ti66]; omega)) ?_)
      rintro ⟨⟨vN, bN⟩, hN⟩
      simp only [Nat.zero_add, List.nil_append] at hN
      dsimp only at hN ⊢
      refine DR.c 12 (DOp.op1 rfl (OpTo.append (L1 := (s2, Obj.cells (OuD.c O9).toArray 66 (0, 0)) :: (b, Obj.cells (rws acC1 (acSet t.fr f'' s.acs) ++ rest).toArray 79 (0, 0)) :: (b7, Obj.cells (u8s M).toArray 33 (0, 0)) :: (b3, Obj.cells F.toArray 41 (0, 0)) :: (rb, Obj.cells #[.int .i64 s.side, vT, (.slice (some ⟨b, 0, none⟩) s.acs.length cap), .slice aO s.out.length cO] 31 (0, 0)) :: (bT ++ bO)) tabOk hN (Src.at ⟨s2, 0, none⟩ 1 1 (OuD.c O9) (by rw [O9.len]; rfl) (Rd.rowAll (arr := (OuD.c O9).toArray) (e := 66) (fz := (0, 0)) (by repeat (first | exact List.mem_cons_self | apply List.mem_cons_of_mem | exact List.mem_append_left _ List.mem_cons_self | apply List.mem_append_right)))) rfl rfl rfl rfl rfl rfl rfl rfl rfl (perm_of fun f => by (simp only [List.map_append, List.map_cons, List.map_nil, List.sum_append, List.sum_cons, List.sum_nil] <;> omega)) O9.one (by unfold maxLen; omega) (by simp only [ti66]; omega)) ?_)
      rintro ⟨⟨vM, bM⟩, hMM⟩
      dsimp only at hMM ⊢
      obtain ⟨a8, k8, rfl, hk8⟩ := hMM.shape
      refine dt 13 ?_
      refine dt 14 ?_
      refine DR.c 15 ?_
      refine DOp.op1 rfl (os1 (off := 3) (v := .slice a8 (s.out.length + 1) k8) (arr := #[.int .i64 s.side, vT, (.slice (some ⟨b, 0, none⟩) s.acs.length cap), .slice aO s.out.length cO]) (e := 31) (L' := bM ++ ((s2, Obj.cells (OuD.c O9).toArray 66 (0, 0)) :: (b, Obj.cells (rws acC1 (acSet t.fr f'' s.acs) ++ rest).toArray 79 (0, 0)) :: (b7, Obj.cells (u8s M).toArray 33 (0, 0)) :: (b3, Obj.cells F.toArray 41 (0, 0)) :: (bT ++ bO))) #[.int .i64 s.side, vT, (.slice (some ⟨b, 0, none⟩) s.acs.length cap), .slice a8 (s.out.length + 1) k8] (hL := (perm_of fun f => by (simp only [List.map_append, List.map_cons, List.map_nil, List.sum_append, List.sum_cons, List.sum_nil] <;> omega)))) (fun _ => ?_)
      refine DR.done (by kernel_rfl) ?_
      refine z_ ?_
      exact RQ.ret1 rfl (Res.tmp rfl) fun w' hm => Turns.of (Y := {z : RlP rb // z.s = { s with acs := acSet t.fr f'' s.acs, out := s.out ++ [O9] }}) (V := fun _ => .int .i64 0) (L' := fun z => z.1.L) (Lst := (rb, Obj.cells #[.int .i64 s.side, vT, (.slice (some ⟨b, 0, none⟩) s.acs.length cap), .slice aO s.out.length cO] 31 (0, 0)) :: (bT ++ ([(b, Obj.cells (rws acC1 s.acs ++ rest).toArray 79 (0, 0))] ++ bO))) ⟨⟨vT, (.slice (some ⟨b, 0, none⟩) s.acs.length cap), .slice a8 (s.out.length + 1) k8, bT, [(b, Obj.cells (rws acC1 (acSet t.fr f'' s.acs) ++ rest).toArray 79 (0, 0))], bM, { s with acs := acSet t.fr f'' s.acs, out := s.out ++ [O9] }, dok, by dsimp only; rw [hl2, hfst]; exact hT, by
        have h5 := Own.row (e := 79) (sz := 10) b s.acs.length cap (rws acC1 (acSet t.fr f'' s.acs)) rest (by rw [rws_len acC1_len, hl2]) (by rw [← hcr, List.length_append, List.length_append, rws_len acC1_len, rws_len acC1_len, hl2]) hn1 hn2
        dsimp only
        rw [hl2]
        exact h5, by dsimp only; rw [List.length_append, rws_app, rws_one]; exact hMM⟩, rfl⟩ hm (Lr := (s2, Obj.cells (OuD.c O9).toArray 66 (0, 0)) :: (b7, Obj.cells (u8s M).toArray 33 (0, 0)) :: (b3, Obj.cells F.toArray 41 (0, 0)) :: bO) (by unfold RlP.L RlP.row; exact (perm_of fun f => by (simp only [List.map_append, List.map_cons, List.map_nil, List.sum_append, List.sum_cons, List.sum_nil] <;> omega)))
end Go.Proofs.YtfhdfpejjgmdcaaGreatDoor

/- account: the reference's Tree, Close. -/
namespace Go.Proofs.YtfhdfpejjgmdcaaGreatDoor
attribute [local irreducible] Go.Vc.Run Go.Vc.RC Go.Vc.RQ Go.Vc.DR Go.Vc.DOp
open Go Go.Vc Go.Sha
abbrev TrY (l : Acs) := {z : Nat × OwT // z.2.r = finL (l.map acDp)}
set_option maxRecDepth 10000 in set_option maxHeartbeats 4000000 in
theorem RTree_calls {rb : Nat} (y : RlP rb) (w : World) (hw : Has y.L w) : Turns Tryz.prog 23 [.pointer (some ⟨rb, 0, none⟩)] w [] (Y := TrY y.s.acs) (fun z => .pointer (some ⟨z.1.1, 0, none⟩)) (fun z => LvL z.1.1 z.1.2) := by
  refine enter Tryz.func23 rfl (Mem.nil w []) rfl ?_
  have hc1 := y.cell hw 1
  change w.cell? ⟨rb, 1, none⟩ = some y.vT at hc1
  have hc2 := y.cell hw 2
  change w.cell? ⟨rb, 2, none⟩ = some y.vA at hc2
  have hs1 := y.hT.srcW (w := w) fun q hq => hw q (List.mem_cons_of_mem _ (List.mem_append_left _ hq))
  have hs2 := y.hA.srcW (w := w) fun q hq => hw q (List.mem_cons_of_mem _ (List.mem_append_right _ (List.mem_append_left _ hq)))
  have hll := y.ok.ok.len
  obtain ⟨aT, cT, evT, hcT⟩ := hs1.shape
  obtain ⟨aA, cA, evA, hcA⟩ := hs2.shape
  rw [evT] at hc1 hs1
  rw [evA] at hc2 hs2
  clear evT evA
  generalize y.s.acs = l at hs1 hs2 hll hcT hcA hc1 hc2 ⊢
  refine z_ ?_
  refine Run.a (vbs #[.slice none 0 0, .slice none 0 0]) ?_
  refine Run.nw nbx ?_
  intro tb
  refine z_ ?_
  obtain ⟨d0, hd0⟩ : ∃ d0 : OwT, d0 = ⟨[], .slice none 0 0, .slice none 0 0, [], [], Own.nil, Own.nil⟩ := ⟨_, rfl⟩
  refine RC.up l.length (D := OwT) (fun k d => d.r = finL ((l.take k).map acDp)) (fun k _ => [(4, .int .i64 k), (3, .pointer (some ⟨tb, 0, none⟩)), (0, .pointer (some ⟨rb, 0, none⟩))]) (fun _ d => LvL tb d) 0 d0 (Nat.zero_le _) (by rw [hd0]; rfl) ⟨rfl, rfl, rfl, trivial⟩ (by rw [hd0]; exact List.Sublist.refl _) ?_
  clear hd0 d0
  intro k d hk hfin
  refine z_ ?_
  refine Run.a (vlo hc1) ?_
  refine z_ ?_
  (repeat refine RC.seq ?_); refine RC.wh rfl (fun h => RQ.next ?_) (fun h => ?_)
  · have hk' : k < l.length := by have := of_decide_eq_true h; omega
    clear h
    obtain ⟨p, hp⟩ : ∃ p, l[k]? = some p := ⟨_, List.getElem?_eq_getElem hk'⟩
    obtain ⟨adT, c1, hv1, _, _, hr1⟩ := hs1.pos (by omega)
    obtain ⟨adA, c2, hv2, _, _, hr2⟩ := hs2.pos (by omega)
    cases hv1
    cases hv2
    have hcp := hr1 k (.int .i64 p.1) (by unfold i64L; rw [List.getElem?_map, List.getElem?_map, hp]; rfl)
    have hal : (acC p.2.o p.2.am p.2.no).length = 10 := acC1_len p
    have hload : ∀ j u, (acC p.2.o p.2.am p.2.no)[j]? = some u → w.cell? ((adA.add (k * 10)).add j) = some u := fun j u hj => by
      rw [add_add]; exact hr2 _ u (rws_at acC1_len hp j u hj)
    have hok : LvOk d.r := by rw [hfin]; exact fin_ok _
    have h8 := acLf_8 p.1 p.2
    have hnx : finL ((l.take (k + 1)).map acDp) = putL d.r p.1 (acLf p.1 p.2) := by
      rw [List.take_add_one, hp, Option.toList_some, List.map_append]
      unfold finL at hfin ⊢
      rw [List.foldl_append, ← hfin]; rfl
    refine z_ ?_
    (repeat refine RC.seq ?_); refine RC.drawS mixed (N := 24) rfl ?_
    refine dt 0 ?_
    refine dt 1 ?_
    refine dt 2 ?_
    refine dt 3 ?_
    refine DR.t 4 rfl (vlo hc1) ?_
    refine dt 5 ?_
    refine DR.t 6 rfl (vix k hk' (adT.add k) (ha := by show adT.add (k * 1) = _; rw [Nat.mul_one])) ?_
    refine DR.t 7 rfl (vlo hcp) ?_
    refine dt 8 ?_
    refine dt 9 ?_
    refine dt 10 ?_
    refine DR.t 11 rfl (vlo hc1) ?_
    refine dt 12 ?_
    refine DR.t 13 rfl (vix k hk' (adT.add k) (ha := by show adT.add (k * 1) = _; rw [Nat.mul_one])) ?_
    refine DR.t 14 rfl (vlo hcp) ?_
    refine dt 15 ?_
    refine dt 16 ?_
    refine dt 17 ?_
    refine DR.t 18 rfl (vlo hc2) ?_
    refine dt 19 ?_
    refine DR.t 20 rfl (vix k hk' (adA.add (k * 10))) ?_
    refine DR.t 21 rfl (vloA hload hal) ?_
    refine DR.c 22 (DOp.op1 rfl (OpTo.cv Tryz.func57 (fun w' _ => RLeaf_calls p.1 p.2.o p.2.h8 p.2.am p.2.no w')) (fun _ => ?_))
    have hz : (LvL tb d).Perm (LvL tb d ++ []) := by rw [List.append_nil]
    refine DR.c 23 (DOp.op1 rfl (OpTo.callT Tryz.func56 hz (fun w' hm => LPut_calls d hok tb p.1 (acLf p.1 p.2) h8 w' (hm.part hz).1 (hm.part hz).2)) ?_)
    rintro ⟨d2, hd2⟩
    dsimp only
    refine DR.done (by kernel_rfl) ?_
    refine z_ ?_
    exact RQ.upS (k + 1) d2 (Nat.lt_succ_self _) hk' (by rw [hd2, hnx]) ⟨rfl, rfl, rfl, trivial⟩ (List.Perm.refl _) (by rw [List.append_nil]; exact List.Sublist.refl _)
  · have hk' : k = l.length := by have := of_decide_eq_false h; omega
    clear h
    subst hk'
    rw [List.take_length] at hfin
    (repeat refine RQ.thenExit ?_); refine RQ.blockHere ?_
    refine z_ ?_
    exact RQ.ret1 rfl (Res.tmp rfl) fun w' hm => Turns.of (Y := TrY l) (V := fun z => .pointer (some ⟨z.1.1, 0, none⟩)) (L' := fun z => LvL z.1.1 z.1.2) (Lst := []) ⟨(tb, d), hfin⟩ hm (Lr := []) (by rw [List.append_nil])
section
variable {rb : Nat} (y : RlP rb)
def RlP.shut : RlP rb := ⟨y.vT, y.vA, .slice none 0 0, y.bT, y.bA, [], { y.s with out := [] }, ⟨y.ok.ok, y.ok.am, y.ok.no, Nat.zero_le _, fun x hx => by cases hx⟩, y.hT, y.hA, Own.nil⟩
abbrev ClY (l : List OuD) := {z : Value × Hp // Own 66 9 z.1 l.length (rws OuD.c l) z.2}
set_option maxRecDepth 10000 in set_option maxHeartbeats 4000000 in
theorem RClose_calls (w : World) (hw : Has y.L w) (hnd : (y.L.map (·.1)).Nodup) :
    Turns Tryz.prog 18 [.pointer (some ⟨rb, 0, none⟩)] w y.L (Y := ClY y.s.out) (fun z => .tuple #[.agg (u8s (nodeF (acF y.s.acs) 16 0)).toArray, z.1.1]) (fun z => y.shut.L ++ z.1.2) := by
  refine enter Tryz.func18 rfl (Mem.init (S0 := y.L.map (·.1)) hw (fun p hp => List.mem_map_of_mem hp) hnd) rfl ?_
  have h8 := nodeF_8 (acF_ok y.s.acs) 16 0
  have ct := fun w' hw' => RTree_calls y.shut w' hw'
  have hfin := acF_fin y.ok.ok
  have hol := y.ok.ol
  obtain ⟨aO, cO, evO, hcO⟩ := y.hO.shape
  have hshut : ∀ {S0 : List Nat} {w' : World} {A B : Hp}, Mem w S0 (B ++ ((rb, Obj.cells #[.int .i64 y.s.side, y.vT, y.vA, .slice none 0 0] 31 (0, 0)) :: (y.bT ++ (y.bA ++ A)))) w' → Has y.shut.L w' := fun hm q hq => hm.has q (List.mem_append_right _ (by
    rcases List.mem_cons.1 hq with rfl | hq
    · exact m0
    · refine List.mem_cons_of_mem _ ?_
      rcases List.mem_append.1 hq with hq | hq
      · exact List.mem_append_left _ hq
      · rcases List.mem_append.1 hq with hq | hq
        · exact List.mem_append_right _ (List.mem_append_left _ hq)
        · cases hq))
  refine z_ ?_
  refine Run.nw nal ?_
  intro b2
  rw [show y.L = (rb, .cells #[.int .i64 y.s.side, y.vT, y.vA, y.vO] 31 (0, 0)) :: (y.bT ++ (y.bA ++ y.bO)) from rfl, evO]
  have hO := y.hO
  rw [evO] at hO
  refine z_ ?_
  refine Run.op1 (OpTo.append (L1 := (b2, Obj.cells (u8s Z8).toArray 33 (0, 0)) :: (rb, .cells #[.int .i64 y.s.side, y.vT, y.vA, .slice aO y.s.out.length cO] 31 (0, 0)) :: (y.bT ++ (y.bA ++ y.bO))) tabOk (Own.nil (e := 66)) (hO.src (fun q hq => by repeat (first | exact hq | apply List.mem_cons_of_mem | apply List.mem_append_right))) rfl rfl rfl rfl rfl rfl rfl rfl rfl (List.Perm.refl _) (rws_one' fun a _ => a.one) (by unfold maxLen; omega) (by simp only [ti66]; omega)) ?_
  rintro ⟨⟨vN, bN⟩, hN⟩
  simp only [Nat.zero_add, List.nil_append] at hN
  dsimp only at hN ⊢
  refine z_ ?_
  refine Run.op1 (os1 (off := 3) (v := .slice none 0 0) (arr := #[.int .i64 y.s.side, y.vT, y.vA, .slice aO y.s.out.length cO]) (e := 31) (L' := bN ++ ((b2, Obj.cells (u8s Z8).toArray 33 (0, 0)) :: (y.bT ++ (y.bA ++ y.bO)))) #[.int .i64 y.s.side, y.vT, y.vA, .slice none 0 0] (hL := (perm_of fun f => by (simp only [List.map_append, List.map_cons, List.map_nil, List.sum_append, List.sum_cons, List.sum_nil] <;> omega)))) (fun _ => ?_)
  refine z_ ?_
  have hz1 : ((rb, Obj.cells #[.int .i64 y.s.side, y.vT, y.vA, .slice none 0 0] 31 (0, 0)) :: (bN ++ ((b2, Obj.cells (u8s Z8).toArray 33 (0, 0)) :: (y.bT ++ (y.bA ++ y.bO)))) : Hp).Perm ((bN ++ [(b2, Obj.cells (u8s Z8).toArray 33 (0, 0))]) ++ ((rb, Obj.cells #[.int .i64 y.s.side, y.vT, y.vA, .slice none 0 0] 31 (0, 0)) :: (y.bT ++ (y.bA ++ y.bO)))) := (perm_of fun f => by (simp only [List.map_append, List.map_cons, List.map_nil, List.sum_append, List.sum_cons, List.sum_nil] <;> omega))
  have hz0 : ((rb, Obj.cells #[.int .i64 y.s.side, y.vT, y.vA, .slice none 0 0] 31 (0, 0)) :: (bN ++ ((b2, Obj.cells (u8s Z8).toArray 33 (0, 0)) :: (y.bT ++ (y.bA ++ y.bO)))) : Hp).Perm ([] ++ ((rb, Obj.cells #[.int .i64 y.s.side, y.vT, y.vA, .slice none 0 0] 31 (0, 0)) :: (bN ++ ((b2, Obj.cells (u8s Z8).toArray 33 (0, 0)) :: (y.bT ++ (y.bA ++ y.bO)))))) := List.Perm.refl _
  refine Run.op1 (OpTo.callT Tryz.func23 hz0 (fun w' hm => ct w' (hshut (hm.perm hz1)))) ?_
  rintro ⟨⟨tb, d⟩, hd⟩
  dsimp only at hd ⊢
  have hdr : nodeF (lfF d.r) 16 0 = nodeF (acF y.s.acs) 16 0 := by rw [hd]; exact congrArg (fun F => nodeF F 16 0) hfin
  have cto := fun w' hw' => Top_calls d.r (by rw [hd]; exact fin_ok _) tb w' hw'
  rw [hdr] at cto
  generalize nodeF (acF y.s.acs) 16 0 = R at h8 cto ⊢
  have sR : (u8s R).toArray.size = 8 := by rw [List.size_toArray, u8s_len, h8.1]
  refine Run.op1 (OpTo.cv Tryz.func48 (fun w' hm => cto w' (d.lvW fun q hq => hm.has q (List.mem_append_left _ hq)))) (fun _ => ?_)
  refine z_ ?_
  refine Run.op1 (osa (arr := (u8s Z8).toArray) (e := 33) (L' := LvL tb d ++ (bN ++ ((rb, Obj.cells #[.int .i64 y.s.side, y.vT, y.vA, .slice none 0 0] 31 (0, 0)) :: (y.bT ++ (y.bA ++ y.bO))))) (u8s R).toArray (u8s_one _) (hs := sR) (hL := (perm_of fun f => by (simp only [List.map_append, List.map_cons, List.map_nil, List.sum_append, List.sum_cons, List.sum_nil] <;> omega)))) (fun _ => ?_)
  refine z_ ?_
  exact RQ.ret2 rfl (Res.cellAll tabOk rfl rfl rfl m0 sR) (Res.tmp rfl) fun w' hm => Turns.of (Y := ClY y.s.out) (V := fun z => .tuple #[.agg (u8s R).toArray, z.1.1]) (L' := fun z => y.shut.L ++ z.1.2) (Lst := y.L) ⟨(vN, bN), hN⟩ hm (Lr := (b2, Obj.cells (u8s R).toArray 33 (0, 0)) :: (LvL tb d ++ y.bO)) (by unfold RlP.shut RlP.L RlP.row; exact (perm_of fun f => by (simp only [List.map_append, List.map_cons, List.map_nil, List.sum_append, List.sum_cons, List.sum_nil] <;> omega)))
end
end Go.Proofs.YtfhdfpejjgmdcaaGreatDoor
