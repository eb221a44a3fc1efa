/- QuorumMay, QuorumChecks. -/
import Derived.Test.YtilfbomjaflbjaaDoorQuG
namespace Go.Proofs.YtilfbomjaflbjaaDoor
open Go Go.Vc Go.Sha

set_option maxRecDepth 10000 in
theorem QuorumMay_calls (ln wd nd : Int) (l : List (List Nat)) (hH : HL l) (hll : l.length ≤ 9223372036854775807) (v : Value) (w : World) (hs : SrcW w 8 v l.length (u8s l.flatten)) (hK : Laid w) :
    Gives Tryd.prog 7 [.agg (prm ln wd nd v).toArray] (.bool true) w := by
  refine enter Tryd.func7 rfl (Mem.nil w []) rfl ?_
  obtain ⟨ka, kc, rfl, hkc⟩ := hs.shape
  have hM := fun w' hs' => May_calls ln wd nd l hH hll (.slice ka l.length kc) w' hs'
  have hN := fun w' hs' => MayParams_calls ln wd nd l hH hll (.slice ka l.length kc) w' hs'
  generalize mayP ln wd nd l = ok at *
  (repeat refine RC.seq ?_); refine RC.region ?_
  refine Run.mk rfl rfl rfl (New.boxA rfl rfl) ?_
  intro b1
  refine Run.v rfl rfl rfl (Val.of rfl) ?_
  refine Run.nil (RQ.next ?_)
  (repeat refine RC.seq ?_); refine RC.region ?_
  refine Run.callV Tryd.func22 rfl rfl rfl rfl rfl rfl rfl (fun w' hm => q_awake_calls w' (hK.fr hm.fr (by simp))) ?_
  refine Run.v rfl rfl rfl (Val.of rfl) ?_
  refine Run.nil (RQ.next ?_)
  (repeat refine RC.seq ?_); refine RC.condF rfl rfl (RC.skip (RQ.next ?_))
  (repeat refine RC.seq ?_); refine RC.region ?_
  refine Run.v rfl rfl rfl (Val.fieldAddr tabOk rfl rfl rfl rfl rfl rfl rfl rfl) ?_
  refine Run.v rfl rfl rfl (Val.load (v := .slice ka l.length kc) tabOk rfl rfl rfl m0 rfl) ?_
  refine Run.v rfl rfl rfl (Val.len (len := l.length) tabOk rfl rfl rfl rfl) ?_
  refine Run.v rfl rfl rfl (Val.of rfl) ?_
  refine Run.nil (RQ.next ?_)
  (repeat refine RC.seq ?_); refine RC.cond rfl (fun h => ?_) (fun h => ?_)
  · (repeat refine RC.seq ?_); refine RC.region ?_
    refine Run.v rfl rfl rfl (Val.of rfl) ?_
    refine Run.nil (RQ.next ?_)
    refine RC.ret ?_; (repeat first | refine RQ.thenRet ?_ | refine RQ.blockRet ?_); exact RQ.ret1 rfl (Res.tmp rfl) fun w' hm => ⟨rfl, hm.fr⟩
  refine RC.skip (RQ.next ?_)
  (repeat refine RC.seq ?_); refine RC.drawS mixed (N := 6) rfl ?_
  refine DR.take 0 rfl (by repeat (first | exact List.nil_sublist _ | exact List.Sublist.refl _ | apply List.Sublist.cons_cons | apply List.Sublist.cons | apply Go.Vc.subApp)) inferInstance (by kernel_rfl) (by kernel_rfl) (by kernel_rfl) (by kernel_rfl) rfl rfl (Wanted.plain rfl) (Val.loadAll tabOk rfl rfl rfl rfl m0 rfl) ?_
  refine DR.take 2 rfl (by repeat (first | exact List.nil_sublist _ | exact List.Sublist.refl _ | apply List.Sublist.cons_cons | apply List.Sublist.cons | apply Go.Vc.subApp)) inferInstance (by kernel_rfl) (by kernel_rfl) (by kernel_rfl) (by kernel_rfl) rfl rfl (Wanted.plain rfl) (Val.loadAll tabOk rfl rfl rfl rfl m0 rfl) ?_
  refine DR.one (i := 1) (by kernel_rfl) ?_
  refine DOp.op rfl (Wanted.plain rfl) (OpTo.callV Tryd.func23 rfl rfl rfl rfl rfl rfl (fun w' hm => hM w' (hs.mem hm))) (.inl fun _ => (by repeat (first | exact List.nil_sublist _ | exact List.Sublist.refl _ | apply List.Sublist.cons_cons | apply List.Sublist.cons | apply Go.Vc.subApp))) (fun _ => ?_)
  refine DR.one (i := 3) (by kernel_rfl) ?_
  refine DOp.op rfl (Wanted.plain rfl) (OpTo.callV Tryd.func24 rfl rfl rfl rfl rfl rfl (fun w' hm => hN w' (hs.mem hm))) (.inl fun _ => (by repeat (first | exact List.nil_sublist _ | exact List.Sublist.refl _ | apply List.Sublist.cons_cons | apply List.Sublist.cons | apply Go.Vc.subApp))) (fun _ => ?_)
  refine DR.take 4 rfl (by repeat (first | exact List.nil_sublist _ | exact List.Sublist.refl _ | apply List.Sublist.cons_cons | apply List.Sublist.cons | apply Go.Vc.subApp)) inferInstance (by kernel_rfl) (by kernel_rfl) (by kernel_rfl) (by kernel_rfl) rfl rfl (Wanted.plain rfl) (Val.eq (Val.eqBool tabOk rfl rfl rfl rfl rfl) (show _ = Value.bool true from by cases ok <;> rfl)) ?_
  refine DR.take 5 rfl (by repeat (first | exact List.nil_sublist _ | exact List.Sublist.refl _ | apply List.Sublist.cons_cons | apply List.Sublist.cons | apply Go.Vc.subApp)) inferInstance (by kernel_rfl) (by kernel_rfl) (by kernel_rfl) (by kernel_rfl) rfl rfl (Wanted.plain rfl) (Val.of rfl) ?_
  refine DR.done (by kernel_rfl) (RQ.next ?_)
  refine RC.ret ?_; (repeat first | refine RQ.thenRet ?_ | refine RQ.blockRet ?_); exact RQ.ret1 rfl (Res.tmp rfl) fun w' hm => ⟨rfl, hm.fr⟩

set_option maxRecDepth 10000 in
theorem QuorumChecks_calls (B : List Nat) (hB : B.length = 2) (hBlt : ∀ x ∈ B, x < 256) (who : List Int) (hwl : who.length ≤ 9223372036854775807) (bent : List Bool) (hbl : bent.length ≤ 9223372036854775807) (vw vb : Value) (w : World)
    (hsw : SrcW w 1 vw who.length (i64L who)) (hsb : SrcW w 1 vb bent.length (boolL bent)) (hK : Laid w) :
    Gives Tryd.prog 8 [.agg (u8s B).toArray, vw, vb] (.bool true) w := by
  refine enter Tryd.func8 rfl (Mem.nil w []) rfl ?_
  obtain ⟨wa, wc, rfl, hwc⟩ := hsw.shape
  obtain ⟨ba, bc, rfl, hbc⟩ := hsb.shape
  obtain ⟨x0, x1, rfl⟩ : ∃ x0 x1, B = [x0, x1] := by
    match B, hB with
    | [x0, x1], _ => exact ⟨x0, x1, rfl⟩
  have hx0 := hBlt x0 (by simp)
  have hx1 := hBlt x1 (by simp)
  (repeat refine RC.seq ?_); refine RC.region ?_
  refine Run.mk rfl rfl rfl (New.boxA rfl rfl) ?_
  intro b3
  refine Run.v rfl rfl rfl (Val.of rfl) ?_
  refine Run.nil (RQ.next ?_)
  (repeat refine RC.seq ?_); refine RC.region ?_
  refine Run.callV Tryd.func22 rfl rfl rfl rfl rfl rfl rfl (fun w' hm => q_awake_calls w' (hK.fr hm.fr (by simp))) ?_
  refine Run.v rfl rfl rfl (Val.of rfl) ?_
  refine Run.nil (RQ.next ?_)
  (repeat refine RC.seq ?_); refine RC.condF rfl rfl (RC.skip (RQ.next ?_))
  by_cases hw8 : 8 < who.length
  · (repeat refine RC.seq ?_); refine RC.region ?_
    refine Run.v rfl rfl rfl (Val.of rfl) ?_
    refine Run.v rfl rfl rfl (Val.len (len := who.length) tabOk rfl rfl rfl rfl) ?_
    refine Run.v rfl rfl rfl (Val.eq (Val.of rfl) (show _ = Value.bool true from congrArg Value.bool (decide_eq_true (by omega)))) ?_
    refine Run.v rfl rfl rfl (Val.of rfl) ?_
    refine Run.skipG (Wanted.guard rfl rfl rfl rfl) rfl rfl ?_
    refine Run.skipG (Wanted.guard rfl rfl rfl rfl) rfl rfl ?_
    refine Run.skipG (Wanted.guard rfl rfl rfl rfl) rfl rfl ?_
    refine Run.v rfl rfl rfl (Val.of rfl) ?_
    refine Run.nil (RQ.next ?_)
    (repeat refine RC.seq ?_); refine RC.condT rfl rfl ?_
    (repeat refine RC.seq ?_); refine RC.region ?_
    refine Run.v rfl rfl rfl (Val.of rfl) ?_
    refine Run.nil (RQ.next ?_)
    refine RC.ret ?_; (repeat first | refine RQ.thenRet ?_ | refine RQ.blockRet ?_); exact RQ.ret1 rfl (Res.tmp rfl) fun w' hm => ⟨rfl, hm.fr⟩
  by_cases hb50 : 50 < bent.length
  · (repeat refine RC.seq ?_); refine RC.region ?_
    refine Run.v rfl rfl rfl (Val.of rfl) ?_
    refine Run.v rfl rfl rfl (Val.len (len := who.length) tabOk rfl rfl rfl rfl) ?_
    refine Run.v rfl rfl rfl (Val.eq (Val.of rfl) (show _ = Value.bool false from congrArg Value.bool (decide_eq_false (by omega)))) ?_
    refine Run.v rfl rfl rfl (Val.of rfl) ?_
    refine Run.vG (Wanted.guard rfl rfl rfl rfl) rfl rfl (Val.of rfl) ?_
    refine Run.vG (Wanted.guard rfl rfl rfl rfl) rfl rfl (Val.len (len := bent.length) tabOk rfl rfl rfl rfl) ?_
    refine Run.vG (Wanted.guard rfl rfl rfl rfl) rfl rfl (Val.eq (Val.of rfl) (show _ = Value.bool true from congrArg Value.bool (decide_eq_true (by omega)))) ?_
    refine Run.v rfl rfl rfl (Val.of rfl) ?_
    refine Run.nil (RQ.next ?_)
    (repeat refine RC.seq ?_); refine RC.condT rfl rfl ?_
    (repeat refine RC.seq ?_); refine RC.region ?_
    refine Run.v rfl rfl rfl (Val.of rfl) ?_
    refine Run.nil (RQ.next ?_)
    refine RC.ret ?_; (repeat first | refine RQ.thenRet ?_ | refine RQ.blockRet ?_); exact RQ.ret1 rfl (Res.tmp rfl) fun w' hm => ⟨rfl, hm.fr⟩
  (repeat refine RC.seq ?_); refine RC.region ?_
  refine Run.v rfl rfl rfl (Val.of rfl) ?_
  refine Run.v rfl rfl rfl (Val.len (len := who.length) tabOk rfl rfl rfl rfl) ?_
  refine Run.v rfl rfl rfl (Val.eq (Val.of rfl) (show _ = Value.bool false from congrArg Value.bool (decide_eq_false (by omega)))) ?_
  refine Run.v rfl rfl rfl (Val.of rfl) ?_
  refine Run.vG (Wanted.guard rfl rfl rfl rfl) rfl rfl (Val.of rfl) ?_
  refine Run.vG (Wanted.guard rfl rfl rfl rfl) rfl rfl (Val.len (len := bent.length) tabOk rfl rfl rfl rfl) ?_
  refine Run.vG (Wanted.guard rfl rfl rfl rfl) rfl rfl (Val.eq (Val.of rfl) (show _ = Value.bool false from congrArg Value.bool (decide_eq_false (by omega)))) ?_
  refine Run.v rfl rfl rfl (Val.of rfl) ?_
  refine Run.nil (RQ.next ?_)
  (repeat refine RC.seq ?_); refine RC.condF rfl rfl (RC.skip (RQ.next ?_))
  obtain ⟨k, hk, hk6⟩ : ∃ k, x0 % 6 = k ∧ k < 6 := ⟨_, rfl, by omega⟩
  have hMd := fun w' => Made_calls ((k : Nat) : Int) ((x1 % 6 : Nat) : Int) w'
  rw [Int.toNat_natCast, Nat.min_eq_left (show k ≤ 8 by omega)] at hMd
  have hcl := certs_len k
  have hcH := certs_HL k
  obtain ⟨m, hm⟩ : ∃ m, m = [4, x0, 0, 0, 0, 0, 0, 0] := ⟨_, rfl⟩
  have hm8 : m.length = 8 := by rw [hm]; rfl
  have hmlt : ∀ x ∈ m, x < 256 := by rw [hm]; intro x hx; simp at hx; omega
  have hS := fun w' h1 h2 => Signed_calls m hm8 hmlt who (by omega) bent hbl (.slice wa who.length wc) (.slice ba bent.length bc) w' h1 h2
  have hsl := sgL_len m who bent who.length
  have hcs := cnt_same (certs k) m (sgL m who bent who.length)
  have hC := fun v vs w' h1 h2 h3 => qCheck_calls 4 2 ((x1 % 6 : Nat) : Int) (certs k) hcH (by omega) m hm8 hmlt (sgL m who bent who.length) (by omega) v vs w' h1 h2 h3
  have hD := fun v vs w' h1 h2 => qrefCheck_calls 4 2 ((x1 % 6 : Nat) : Int) (certs k) hcH (by omega) m hm8 hmlt (sgL m who bent who.length) (by omega) v vs w' h1 h2
  have hE := fun v vs w' h1 h2 h3 => qCount_calls 4 2 ((x1 % 6 : Nat) : Int) (certs k) hcH m hm8 hmlt (sgL m who bent who.length) (by omega) v vs w' h1 h2 h3
  have hF := fun v vs w' h1 h2 => qrefCount_calls 4 2 ((x1 % 6 : Nat) : Int) (certs k) hcH (by omega) m hm8 hmlt (sgL m who bent who.length) (by omega) v vs w' h1 h2
  rw [hcs] at hE
  rw [hsl] at hC hD hE hF
  generalize cntR (certs k) m (sgL m who bent who.length) (certs k).length = cn at *
  generalize chkQ 4 2 ((x1 % 6 : Nat) : Int) (certs k) m (sgL m who bent who.length) = ok at *
  rw [hcl] at hC hD hE hF
  generalize sgL m who bent who.length = sg at *
  generalize certs k = ct at *
  (repeat refine RC.seq ?_); refine RC.region ?_
  refine Run.v rfl rfl rfl (Val.ix tabOk 0 (off' := 0) rfl rfl rfl rfl rfl rfl rfl (by decide) rfl) ?_
  refine Run.v rfl rfl rfl (Val.load (v := .int .u8 x0) tabOk rfl rfl rfl m0 rfl) ?_
  refine Run.v rfl rfl rfl (Val.convIn tabOk rfl rfl rfl rfl rfl rfl (by dsimp only [inK]; omega)) ?_
  refine Run.v rfl rfl rfl (Val.eq (Val.remN rfl rfl rfl rfl (by decide)) (show _ = Value.int .i64 (k : Int) from by rw [hk])) ?_
  refine Run.v rfl rfl rfl (Val.ix tabOk 1 (off' := 1) rfl rfl rfl rfl rfl rfl rfl (by decide) rfl) ?_
  refine Run.v rfl rfl rfl (Val.load (v := .int .u8 x1) tabOk rfl rfl rfl m0 rfl) ?_
  refine Run.v rfl rfl rfl (Val.convIn tabOk rfl rfl rfl rfl rfl rfl (by dsimp only [inK]; omega)) ?_
  refine Run.v rfl rfl rfl (Val.remN rfl rfl rfl rfl (by decide)) ?_
  refine Run.op rfl (OpTo.callMkP Tryd.func25 rfl rfl rfl rfl rfl rfl (fun w' _ => hMd w')) ?_
  rintro ⟨⟨v, bl⟩, hown⟩
  dsimp only at hown ⊢
  obtain ⟨ka, kc, rfl, hkc⟩ := hown.shape
  refine Run.mk rfl rfl rfl (New.allocTo tabOk (cs := (prm 0 0 0 (.slice none 0 0)).toArray) rfl rfl rfl) ?_
  intro b7
  refine Run.op rfl (OpTo.setV tabOk [] (prm 0 0 0 (.slice none 0 0)) (prm 4 2 ((x1 % 6 : Nat) : Int) (.slice ka k kc)) [] rfl rfl rfl rfl rfl (List.Perm.refl _) rfl (by simp) rfl rfl rfl (by intro u hu; simp only [prm, List.mem_cons, List.not_mem_nil, or_false] at hu; rcases hu with rfl | rfl | rfl | rfl <;> rfl)) (fun _ => ?_)
  rw [List.nil_append, List.append_nil]
  refine Run.nil (RQ.next ?_)
  (repeat refine RC.seq ?_); refine RC.region ?_
  refine Run.v rfl rfl rfl (Val.ix tabOk 0 (off' := 0) rfl rfl rfl rfl rfl rfl rfl (by decide) rfl) ?_
  refine Run.v rfl rfl rfl (Val.load (v := .int .u8 x0) tabOk rfl rfl rfl (by repeat (first | exact List.mem_cons_self | apply List.mem_cons_of_mem | apply List.mem_append_right)) rfl) ?_
  refine Run.v rfl rfl rfl (Val.buildA tabOk (parts := [(0, .const (.int .u8 4)), (1, .tmp 31)]) (vs := [.int .u8 4, .int .u8 x0]) (cells := (u8s m).toArray) rfl rfl rfl rfl rfl (by rw [hm]; rfl)) ?_
  refine Run.mk rfl rfl rfl (New.alloc tabOk rfl rfl) ?_
  intro b8
  refine Run.op rfl (OpTo.setAll tabOk rfl rfl rfl rfl rfl (List.Perm.refl _) hm8 rfl) (fun _ => ?_)
  refine Run.nil (RQ.next ?_)
  (repeat refine RC.seq ?_); refine RC.region ?_
  refine Run.v rfl rfl rfl (Val.of rfl) ?_
  refine Run.nil (RQ.next ?_)
  (repeat refine RC.seq ?_); refine RC.block ?_
  refine RC.up who.length (D := Unit) (fun _ _ => True)
    (fun i _ => [(9, .int .i64 i), (7, .pointer (some ⟨b7, 0, none⟩)), (8, .pointer (some ⟨b8, 0, none⟩)), (1, .slice wa who.length wc), (2, .slice ba bent.length bc)])
    (fun _ _ => (b8, .cells (u8s m).toArray 23 (0, 0)) :: (b7, .cells (prm 4 2 ((x1 % 6 : Nat) : Int) (.slice ka k kc)).toArray 47 (0, 0)) :: (bl ++ [(b3, .cells (u8s [x0, x1]).toArray 38 (0, 0))])) 0 () (Nat.zero_le _) trivial ⟨rfl, rfl, rfl, rfl, rfl, trivial⟩ (List.Sublist.refl _) ?_
  intro i _ hi _
  (repeat refine RC.seq ?_); refine RC.region ?_
  refine Run.v rfl rfl rfl (Val.of rfl) ?_
  refine Run.v rfl rfl rfl (Val.of rfl) ?_
  refine Run.v rfl rfl rfl (Val.len (len := who.length) tabOk rfl rfl rfl rfl) ?_
  refine Run.v rfl rfl rfl (Val.of rfl) ?_
  refine Run.nil (RQ.next ?_)
  (repeat refine RC.seq ?_); refine RC.wh rfl (fun h => RQ.next ?_) (fun h => ?_)
  · have hi' : i < who.length := by have := of_decide_eq_true h; omega
    clear h
    have hwat : (i64L who)[i]? = some (.int .i64 (who.getD i 0)) := by rw [i64L, List.getElem?_map, getD_some hi' 0]; rfl
    obtain ⟨wad, wc', hv, hwc', hwcl, hwr⟩ := hsw.pos (by omega)
    cases hv
    have hwload := oneAt hwr hwat
    generalize who.getD i 0 = z at *
    (repeat refine RC.seq ?_); refine RC.block ?_
    by_cases hz1 : z < -1
    · (repeat refine RC.seq ?_); refine RC.region ?_
      refine Run.v rfl rfl rfl (Val.of rfl) ?_
      refine Run.v rfl rfl rfl (Val.of rfl) ?_
      refine Run.v rfl rfl rfl (Val.ixS tabOk i (ad' := wad.add (i * 1)) rfl rfl rfl rfl rfl rfl rfl hi' rfl) ?_
      refine Run.v rfl rfl rfl (Val.loadOld1 (v := .int .i64 z) tabOk rfl rfl rfl rfl (by simp) hwload) ?_
      refine Run.v rfl rfl rfl (Val.eq (Val.of rfl) (show _ = Value.bool true from congrArg Value.bool (decide_eq_true hz1))) ?_
      refine Run.v rfl rfl rfl (Val.of rfl) ?_
      refine Run.skipG (Wanted.guard rfl rfl rfl rfl) rfl rfl ?_
      refine Run.skipG (Wanted.guard rfl rfl rfl rfl) rfl rfl ?_
      refine Run.skipG (Wanted.guard rfl rfl rfl rfl) rfl rfl ?_
      refine Run.skipG (Wanted.guard rfl rfl rfl rfl) rfl rfl ?_
      refine Run.skipG (Wanted.guard rfl rfl rfl rfl) rfl rfl ?_
      refine Run.v rfl rfl rfl (Val.of rfl) ?_
      refine Run.nil (RQ.next ?_)
      (repeat refine RC.seq ?_); refine RC.condT rfl rfl ?_
      (repeat refine RC.seq ?_); refine RC.region ?_
      refine Run.v rfl rfl rfl (Val.of rfl) ?_
      refine Run.nil (RQ.next ?_)
      refine RC.ret ?_; (repeat first | refine RQ.thenRet ?_ | refine RQ.blockRet ?_); exact RQ.ret1 rfl (Res.tmp rfl) fun w' hm => ⟨rfl, hm.fr⟩
    by_cases hz7 : 7 < z
    · (repeat refine RC.seq ?_); refine RC.region ?_
      refine Run.v rfl rfl rfl (Val.of rfl) ?_
      refine Run.v rfl rfl rfl (Val.of rfl) ?_
      refine Run.v rfl rfl rfl (Val.ixS tabOk i (ad' := wad.add (i * 1)) rfl rfl rfl rfl rfl rfl rfl hi' rfl) ?_
      refine Run.v rfl rfl rfl (Val.loadOld1 (v := .int .i64 z) tabOk rfl rfl rfl rfl (by simp) hwload) ?_
      refine Run.v rfl rfl rfl (Val.eq (Val.of rfl) (show _ = Value.bool false from congrArg Value.bool (decide_eq_false hz1))) ?_
      refine Run.v rfl rfl rfl (Val.of rfl) ?_
      refine Run.vG (Wanted.guard rfl rfl rfl rfl) rfl rfl (Val.of rfl) ?_
      refine Run.vG (Wanted.guard rfl rfl rfl rfl) rfl rfl (Val.of rfl) ?_
      refine Run.vG (Wanted.guard rfl rfl rfl rfl) rfl rfl (Val.ixS tabOk i (ad' := wad.add (i * 1)) rfl rfl rfl rfl rfl rfl rfl hi' rfl) ?_
      refine Run.vG (Wanted.guard rfl rfl rfl rfl) rfl rfl (Val.loadOld1 (v := .int .i64 z) tabOk rfl rfl rfl rfl (by simp) hwload) ?_
      refine Run.vG (Wanted.guard rfl rfl rfl rfl) rfl rfl (Val.eq (Val.of rfl) (show _ = Value.bool true from congrArg Value.bool (decide_eq_true hz7))) ?_
      refine Run.v rfl rfl rfl (Val.of rfl) ?_
      refine Run.nil (RQ.next ?_)
      (repeat refine RC.seq ?_); refine RC.condT rfl rfl ?_
      (repeat refine RC.seq ?_); refine RC.region ?_
      refine Run.v rfl rfl rfl (Val.of rfl) ?_
      refine Run.nil (RQ.next ?_)
      refine RC.ret ?_; (repeat first | refine RQ.thenRet ?_ | refine RQ.blockRet ?_); exact RQ.ret1 rfl (Res.tmp rfl) fun w' hm => ⟨rfl, hm.fr⟩
    (repeat refine RC.seq ?_); refine RC.region ?_
    refine Run.v rfl rfl rfl (Val.of rfl) ?_
    refine Run.v rfl rfl rfl (Val.of rfl) ?_
    refine Run.v rfl rfl rfl (Val.ixS tabOk i (ad' := wad.add (i * 1)) rfl rfl rfl rfl rfl rfl rfl hi' rfl) ?_
    refine Run.v rfl rfl rfl (Val.loadOld1 (v := .int .i64 z) tabOk rfl rfl rfl rfl (by simp) hwload) ?_
    refine Run.v rfl rfl rfl (Val.eq (Val.of rfl) (show _ = Value.bool false from congrArg Value.bool (decide_eq_false hz1))) ?_
    refine Run.v rfl rfl rfl (Val.of rfl) ?_
    refine Run.vG (Wanted.guard rfl rfl rfl rfl) rfl rfl (Val.of rfl) ?_
    refine Run.vG (Wanted.guard rfl rfl rfl rfl) rfl rfl (Val.of rfl) ?_
    refine Run.vG (Wanted.guard rfl rfl rfl rfl) rfl rfl (Val.ixS tabOk i (ad' := wad.add (i * 1)) rfl rfl rfl rfl rfl rfl rfl hi' rfl) ?_
    refine Run.vG (Wanted.guard rfl rfl rfl rfl) rfl rfl (Val.loadOld1 (v := .int .i64 z) tabOk rfl rfl rfl rfl (by simp) hwload) ?_
    refine Run.vG (Wanted.guard rfl rfl rfl rfl) rfl rfl (Val.eq (Val.of rfl) (show _ = Value.bool false from congrArg Value.bool (decide_eq_false hz7))) ?_
    refine Run.v rfl rfl rfl (Val.of rfl) ?_
    refine Run.nil (RQ.next ?_)
    (repeat refine RC.seq ?_); refine RC.condF rfl rfl (RC.skip (RQ.blockNormal (RQ.next ?_)))
    refine RC.region ?_
    repeat (first | refine Run.v rfl rfl rfl (Val.ar rfl rfl rfl rfl (by dsimp only [inK]; omega)) ?_ | refine Run.v rfl rfl rfl (Val.of rfl) ?_)
    exact Run.nil (RQ.up (i + 1) () (Nat.lt_succ_self _) hi' trivial ⟨rfl, rfl, rfl, rfl, rfl, trivial⟩ (List.Sublist.refl _))
  · clear h
    (repeat refine RQ.thenExit ?_); refine RQ.blockHere ?_
    refine RQ.next ?_
    (repeat refine RC.seq ?_); refine RC.region ?_
    refine Run.v rfl rfl rfl (Val.loadU tabOk rfl rfl rfl rfl m0 hm8) ?_
    refine Run.v rfl rfl rfl (Val.of rfl) ?_
    refine Run.v rfl rfl rfl (Val.of rfl) ?_
    refine Run.op rfl (OpTo.callMk Tryd.func26 rfl rfl rfl rfl rfl rfl (fun w' hm => hS w' (hsw.mem hm) (hsb.mem hm))) ?_
    rintro ⟨⟨v10, bl10⟩, hown10⟩
    dsimp only at hown10 ⊢
    refine Run.v rfl rfl rfl (Val.of rfl) ?_
    refine Run.nil (RQ.next ?_)
    (repeat refine RC.seq ?_); refine RC.drawS mixed (N := 21) rfl ?_
    refine DR.take 0 rfl (by repeat (first | exact List.nil_sublist _ | exact List.Sublist.refl _ | apply List.Sublist.cons_cons | apply List.Sublist.cons | apply Go.Vc.subApp)) inferInstance (by kernel_rfl) (by kernel_rfl) (by kernel_rfl) (by kernel_rfl) rfl rfl (Wanted.plain rfl) (Val.loadAll tabOk rfl rfl rfl rfl (List.mem_append_right _ m1) rfl) ?_
    refine DR.take 1 rfl (by repeat (first | exact List.nil_sublist _ | exact List.Sublist.refl _ | apply List.Sublist.cons_cons | apply List.Sublist.cons | apply Go.Vc.subApp)) inferInstance (by kernel_rfl) (by kernel_rfl) (by kernel_rfl) (by kernel_rfl) rfl rfl (Wanted.plain rfl) (Val.loadU tabOk rfl rfl rfl rfl (List.mem_append_right _ m0) hm8) ?_
    refine DR.take 2 rfl (by repeat (first | exact List.nil_sublist _ | exact List.Sublist.refl _ | apply List.Sublist.cons_cons | apply List.Sublist.cons | apply Go.Vc.subApp)) inferInstance (by kernel_rfl) (by kernel_rfl) (by kernel_rfl) (by kernel_rfl) rfl rfl (Wanted.plain rfl) (Val.of rfl) ?_
    refine DR.take 4 rfl (by repeat (first | exact List.nil_sublist _ | exact List.Sublist.refl _ | apply List.Sublist.cons_cons | apply List.Sublist.cons | apply Go.Vc.subApp)) inferInstance (by kernel_rfl) (by kernel_rfl) (by kernel_rfl) (by kernel_rfl) rfl rfl (Wanted.plain rfl) (Val.loadAll tabOk rfl rfl rfl rfl (List.mem_append_right _ m1) rfl) ?_
    refine DR.take 5 rfl (by repeat (first | exact List.nil_sublist _ | exact List.Sublist.refl _ | apply List.Sublist.cons_cons | apply List.Sublist.cons | apply Go.Vc.subApp)) inferInstance (by kernel_rfl) (by kernel_rfl) (by kernel_rfl) (by kernel_rfl) rfl rfl (Wanted.plain rfl) (Val.loadU tabOk rfl rfl rfl rfl (List.mem_append_right _ m0) hm8) ?_
    refine DR.take 6 rfl (by repeat (first | exact List.nil_sublist _ | exact List.Sublist.refl _ | apply List.Sublist.cons_cons | apply List.Sublist.cons | apply Go.Vc.subApp)) inferInstance (by kernel_rfl) (by kernel_rfl) (by kernel_rfl) (by kernel_rfl) rfl rfl (Wanted.plain rfl) (Val.of rfl) ?_
    refine DR.one (i := 3) (by kernel_rfl) ?_
    refine DOp.op rfl (Wanted.plain rfl) (OpTo.callV Tryd.func27 rfl rfl rfl rfl rfl rfl (fun w' hm => hC _ _ w' (hown.srcW (fun q hq => hm.has q (by repeat (first | exact List.mem_append_left _ hq | exact hq | apply List.mem_append_right | apply List.mem_cons_of_mem)))) (hown10.srcW (fun q hq => hm.has q (by repeat (first | exact List.mem_append_left _ hq | exact hq | apply List.mem_append_right | apply List.mem_cons_of_mem)))) (hK.fr hm.fr (by simp)))) (.inl fun _ => (by repeat (first | exact List.nil_sublist _ | exact List.Sublist.refl _ | apply List.Sublist.cons_cons | apply List.Sublist.cons | apply Go.Vc.subApp))) (fun _ => ?_)
    refine DR.one (i := 7) (by kernel_rfl) ?_
    refine DOp.op rfl (Wanted.plain rfl) (OpTo.callV Tryd.func28 rfl rfl rfl rfl rfl rfl (fun w' hm => hD _ _ w' (hown.srcW (fun q hq => hm.has q (by repeat (first | exact List.mem_append_left _ hq | exact hq | apply List.mem_append_right | apply List.mem_cons_of_mem)))) (hown10.srcW (fun q hq => hm.has q (by repeat (first | exact List.mem_append_left _ hq | exact hq | apply List.mem_append_right | apply List.mem_cons_of_mem)))))) (.inl fun _ => (by repeat (first | exact List.nil_sublist _ | exact List.Sublist.refl _ | apply List.Sublist.cons_cons | apply List.Sublist.cons | apply Go.Vc.subApp))) (fun _ => ?_)
    refine DR.take 8 rfl (by repeat (first | exact List.nil_sublist _ | exact List.Sublist.refl _ | apply List.Sublist.cons_cons | apply List.Sublist.cons | apply Go.Vc.subApp)) inferInstance (by kernel_rfl) (by kernel_rfl) (by kernel_rfl) (by kernel_rfl) rfl rfl (Wanted.plain rfl) (Val.eq (Val.eqBool tabOk rfl rfl rfl rfl rfl) (show _ = Value.bool true from by cases ok <;> rfl)) ?_
    refine DR.take 9 rfl (by repeat (first | exact List.nil_sublist _ | exact List.Sublist.refl _ | apply List.Sublist.cons_cons | apply List.Sublist.cons | apply Go.Vc.subApp)) inferInstance (by kernel_rfl) (by kernel_rfl) (by kernel_rfl) (by kernel_rfl) rfl rfl (Wanted.plain rfl) (Val.of rfl) ?_
    refine DR.take 10 rfl (by repeat (first | exact List.nil_sublist _ | exact List.Sublist.refl _ | apply List.Sublist.cons_cons | apply List.Sublist.cons | apply Go.Vc.subApp)) inferInstance (by kernel_rfl) (by kernel_rfl) (by kernel_rfl) (by kernel_rfl) rfl rfl (Wanted.guard rfl rfl rfl rfl) (Val.loadAll tabOk rfl rfl rfl rfl (List.mem_append_right _ m1) rfl) ?_
    refine DR.take 11 rfl (by repeat (first | exact List.nil_sublist _ | exact List.Sublist.refl _ | apply List.Sublist.cons_cons | apply List.Sublist.cons | apply Go.Vc.subApp)) inferInstance (by kernel_rfl) (by kernel_rfl) (by kernel_rfl) (by kernel_rfl) rfl rfl (Wanted.guard rfl rfl rfl rfl) (Val.loadU tabOk rfl rfl rfl rfl (List.mem_append_right _ m0) hm8) ?_
    refine DR.take 12 rfl (by repeat (first | exact List.nil_sublist _ | exact List.Sublist.refl _ | apply List.Sublist.cons_cons | apply List.Sublist.cons | apply Go.Vc.subApp)) inferInstance (by kernel_rfl) (by kernel_rfl) (by kernel_rfl) (by kernel_rfl) rfl rfl (Wanted.guard rfl rfl rfl rfl) (Val.of rfl) ?_
    refine DR.take 14 rfl (by repeat (first | exact List.nil_sublist _ | exact List.Sublist.refl _ | apply List.Sublist.cons_cons | apply List.Sublist.cons | apply Go.Vc.subApp)) inferInstance (by kernel_rfl) (by kernel_rfl) (by kernel_rfl) (by kernel_rfl) rfl rfl (Wanted.guard rfl rfl rfl rfl) (Val.loadAll tabOk rfl rfl rfl rfl (List.mem_append_right _ m1) rfl) ?_
    refine DR.take 15 rfl (by repeat (first | exact List.nil_sublist _ | exact List.Sublist.refl _ | apply List.Sublist.cons_cons | apply List.Sublist.cons | apply Go.Vc.subApp)) inferInstance (by kernel_rfl) (by kernel_rfl) (by kernel_rfl) (by kernel_rfl) rfl rfl (Wanted.guard rfl rfl rfl rfl) (Val.loadU tabOk rfl rfl rfl rfl (List.mem_append_right _ m0) hm8) ?_
    refine DR.take 16 rfl (by repeat (first | exact List.nil_sublist _ | exact List.Sublist.refl _ | apply List.Sublist.cons_cons | apply List.Sublist.cons | apply Go.Vc.subApp)) inferInstance (by kernel_rfl) (by kernel_rfl) (by kernel_rfl) (by kernel_rfl) rfl rfl (Wanted.guard rfl rfl rfl rfl) (Val.of rfl) ?_
    refine DR.one (i := 13) (by kernel_rfl) ?_
    refine DOp.op rfl (Wanted.guard rfl rfl rfl rfl) (OpTo.callV Tryd.func29 rfl rfl rfl rfl rfl rfl (fun w' hm => hE _ _ w' (hown.srcW (fun q hq => hm.has q (by repeat (first | exact List.mem_append_left _ hq | exact hq | apply List.mem_append_right | apply List.mem_cons_of_mem)))) (hown10.srcW (fun q hq => hm.has q (by repeat (first | exact List.mem_append_left _ hq | exact hq | apply List.mem_append_right | apply List.mem_cons_of_mem)))) (hK.fr hm.fr (by simp)))) (.inl fun _ => by repeat (first | exact List.nil_sublist _ | exact List.Sublist.refl _ | apply List.Sublist.cons_cons | apply List.Sublist.cons | apply Go.Vc.subApp)) (fun _ => ?_)
    refine DR.one (i := 17) (by kernel_rfl) ?_
    refine DOp.op rfl (Wanted.guard rfl rfl rfl rfl) (OpTo.callV Tryd.func30 rfl rfl rfl rfl rfl rfl (fun w' hm => hF _ _ w' (hown.srcW (fun q hq => hm.has q (by repeat (first | exact List.mem_append_left _ hq | exact hq | apply List.mem_append_right | apply List.mem_cons_of_mem)))) (hown10.srcW (fun q hq => hm.has q (by repeat (first | exact List.mem_append_left _ hq | exact hq | apply List.mem_append_right | apply List.mem_cons_of_mem)))))) (.inl fun _ => by repeat (first | exact List.nil_sublist _ | exact List.Sublist.refl _ | apply List.Sublist.cons_cons | apply List.Sublist.cons | apply Go.Vc.subApp)) (fun _ => ?_)
    refine DR.take 18 rfl (by repeat (first | exact List.nil_sublist _ | exact List.Sublist.refl _ | apply List.Sublist.cons_cons | apply List.Sublist.cons | apply Go.Vc.subApp)) inferInstance (by kernel_rfl) (by kernel_rfl) (by kernel_rfl) (by kernel_rfl) rfl rfl (Wanted.guard rfl rfl rfl rfl) (Val.eq (Val.of rfl) (show _ = Value.bool true from congrArg Value.bool (by simp))) ?_
    refine DR.take 19 rfl (by repeat (first | exact List.nil_sublist _ | exact List.Sublist.refl _ | apply List.Sublist.cons_cons | apply List.Sublist.cons | apply Go.Vc.subApp)) inferInstance (by kernel_rfl) (by kernel_rfl) (by kernel_rfl) (by kernel_rfl) rfl rfl (Wanted.plain rfl) (Val.of rfl) ?_
    refine DR.take 20 rfl (by repeat (first | exact List.nil_sublist _ | exact List.Sublist.refl _ | apply List.Sublist.cons_cons | apply List.Sublist.cons | apply Go.Vc.subApp)) inferInstance (by kernel_rfl) (by kernel_rfl) (by kernel_rfl) (by kernel_rfl) rfl rfl (Wanted.plain rfl) (Val.of rfl) ?_
    refine DR.done (by kernel_rfl) (RQ.next ?_)
    refine RC.ret ?_; (repeat first | refine RQ.thenRet ?_ | refine RQ.blockRet ?_); exact RQ.ret1 rfl (Res.tmp rfl) fun w' hm => ⟨rfl, hm.fr⟩
end Go.Proofs.YtilfbomjaflbjaaDoor
