/- registry's law: RegistryFull. -/
import Derived.Test.YtnhnihkpacibgaaRgQ
set_option linter.unusedSimpArgs false
set_option linter.unusedVariables false
namespace Go.Proofs.Ytnhnihkpacibgaa
attribute [local irreducible] Go.Vc.Run Go.Vc.RC Go.Vc.RQ Go.Vc.DR Go.Vc.DOp
open Go Go.Vc Go.Sha
/-- A record whose lists are its own. -/
structure Cp (r : Rc) where
  x : SX
  kb : Hp
  ub : Hp
  hr : x.r = r
  hk : Own 35 8 x.kv r.keys.length (u8s r.keys.flatten) kb
  hu : Own 3 1 x.uv r.used.length (i64L r.used) ub
def Cp.L {r : Rc} (y : Cp r) : Hp := y.kb ++ y.ub
theorem pend2 {α : Type} {a c : α} {u k : List α} : (a :: c :: (u ++ k)).Perm ((k ++ u) ++ [a, c]) := (List.perm_append_comm (l₁ := [a, c]) (l₂ := u ++ k)).trans (List.Perm.append_right _ List.perm_append_comm)
theorem copied_own (s : SX) (hkl : s.r.keys.length ≤ 1000000) (hul : s.r.used.length ≤ 1000000) (w : World) (hok : s.ok w) :
    Turns Try.prog 32 [.agg s.c.toArray] w [] (Y := Cp s.r) (fun y => .agg y.x.c.toArray) Cp.L := by
  obtain ⟨r, kv, uv, hko0, huo0⟩ := s
  obtain ⟨h1, h2⟩ := hok
  dsimp only at h1 h2 hkl hul
  refine enter Try.func32 rfl (Mem.nil w []) rfl ?_
  have hC := fun w' hs' => CloneH_calls r.keys.length hkl r.keys.flatten kv w' hs'
  have hD := fun w' hs' => CloneI_calls r.used.length hul r.used uv w' hs'
  (repeat refine RC.seq ?_); refine RC.region ?_
  refine Run.nw (New.boxA rfl rfl) ?_
  intro b1
  refine Run.nw (New.allocTo tabOk (cs := zeroC.toArray) rfl rfl (by kernel_rfl)) ?_
  intro b2
  refine Run.nil (RQ.next ?_)
  (repeat refine RC.seq ?_); refine RC.region ?_
  refine Run.a (Val.fieldAddr tabOk rfl rfl rfl rfl rfl rfl rfl rfl) ?_
  refine Run.a (Val.fieldAddr tabOk rfl rfl rfl rfl rfl rfl rfl rfl) ?_
  refine Run.a (Val.load (v := kv) tabOk rfl rfl rfl m1 rfl) ?_
  refine Run.op rfl (OpTo.callMk Try.func45 rfl rfl rfl rfl rfl rfl (fun w' hm => hC w' (h1.mem hm))) ?_
  rintro ⟨⟨kv2, kb⟩, hk⟩
  dsimp only at hk ⊢
  have hko := hk.one
  refine Run.a (Val.fieldAddr tabOk rfl rfl rfl rfl rfl rfl rfl rfl) ?_
  refine Run.a (Val.fieldAddr tabOk rfl rfl rfl rfl rfl rfl rfl rfl) ?_
  refine Run.op1 (OpTo.storeTo tabOk (arr' := (r.c kv2 uv).toArray) (by obtain ⟨a, c, rfl, _⟩ := hk.shape; rfl) rfl rfl rfl rfl rfl pin1 (by obtain ⟨a, c, rfl, _⟩ := hk.shape; rfl) (show 3 + 1 ≤ 42 by decide) (by obtain ⟨a, c, rfl, _⟩ := hk.shape; intro u hu; simp [Value.cells] at hu; subst hu; rfl)) (fun _ => ?_)
  refine Run.nil (RQ.next ?_)

  (repeat refine RC.seq ?_); refine RC.region ?_
  refine Run.a (Val.fieldAddr tabOk rfl rfl rfl rfl rfl rfl rfl rfl) ?_
  refine Run.a (Val.fieldAddr tabOk rfl rfl rfl rfl rfl rfl rfl rfl) ?_
  refine Run.a (Val.load (v := .slice none 0 0) tabOk rfl rfl rfl m0 rfl) ?_
  refine Run.callV Try.func46 rfl rfl rfl rfl rfl rfl rfl (fun w' _ => CloneO_calls w') ?_
  refine Run.a (Val.fieldAddr tabOk rfl rfl rfl rfl rfl rfl rfl rfl) ?_
  refine Run.a (Val.fieldAddr tabOk rfl rfl rfl rfl rfl rfl rfl rfl) ?_
  refine Run.op1 (OpTo.storeTo tabOk (arr' := (r.c kv2 uv).toArray) (by rfl) rfl rfl rfl rfl rfl (List.Perm.refl _) rfl (by show _ + 1 ≤ 42; decide) (by intro u hu; simp [Value.cells] at hu; subst hu; rfl)) (fun _ => ?_)
  refine Run.nil (RQ.next ?_)

  (repeat refine RC.seq ?_); refine RC.region ?_
  refine Run.a (Val.fieldAddr tabOk rfl rfl rfl rfl rfl rfl rfl rfl) ?_
  refine Run.a (Val.fieldAddr tabOk rfl rfl rfl rfl rfl rfl rfl rfl) ?_
  refine Run.a (Val.load (v := .slice none 0 0) tabOk rfl rfl rfl m0 rfl) ?_
  refine Run.callV Try.func47 rfl rfl rfl rfl rfl rfl rfl (fun w' _ => CloneS_calls w') ?_
  refine Run.a (Val.fieldAddr tabOk rfl rfl rfl rfl rfl rfl rfl rfl) ?_
  refine Run.a (Val.fieldAddr tabOk rfl rfl rfl rfl rfl rfl rfl rfl) ?_
  refine Run.op1 (OpTo.storeTo tabOk (arr' := (r.c kv2 uv).toArray) (by rfl) rfl rfl rfl rfl rfl (List.Perm.refl _) rfl (by show _ + 1 ≤ 42; decide) (by intro u hu; simp [Value.cells] at hu; subst hu; rfl)) (fun _ => ?_)
  refine Run.nil (RQ.next ?_)

  (repeat refine RC.seq ?_); refine RC.region ?_
  refine Run.a (Val.fieldAddr tabOk rfl rfl rfl rfl rfl rfl rfl rfl) ?_
  refine Run.a (Val.load (v := uv) tabOk rfl rfl rfl m0 rfl) ?_
  refine Run.op rfl (OpTo.callMk Try.func48 rfl rfl rfl rfl rfl rfl (fun w' hm => hD w' (h2.mem hm))) ?_
  rintro ⟨⟨uv2, ub⟩, hu⟩
  dsimp only at hu ⊢
  have huo := hu.one
  refine Run.a (Val.fieldAddr tabOk rfl rfl rfl rfl rfl rfl rfl rfl) ?_
  refine Run.op1 (OpTo.storeTo tabOk (arr' := (r.c kv2 uv2).toArray) (by obtain ⟨a, c, rfl, _⟩ := hu.shape; rfl) rfl rfl rfl rfl rfl pin0 (by obtain ⟨a, c, rfl, _⟩ := hu.shape; rfl) (show 41 + 1 ≤ 42 by decide) (by obtain ⟨a, c, rfl, _⟩ := hu.shape; intro u hu; simp [Value.cells] at hu; subst hu; rfl)) (fun _ => ?_)
  refine Run.nil (RQ.next ?_)
  (repeat refine RC.seq ?_); refine RC.region ?_
  refine Run.a (Val.loadAll tabOk rfl rfl rfl rfl m0 rfl) ?_
  refine Run.op1 (OpTo.setV tabOk [] zeroC (r.c kv2 uv2) [] rfl rfl rfl rfl rfl pend rfl (by simp) rfl rfl rfl (r.one hko huo)) (fun _ => ?_)
  rw [List.nil_append, List.append_nil]
  refine Run.nil (RQ.next ?_)
  refine RC.ret ?_; (repeat first | refine RQ.thenRet ?_ | refine RQ.blockRet ?_)
  refine RQ.ret1 rfl (Res.cellAll tabOk rfl rfl rfl m0 rfl) fun w' hm => Turns.of (Y := Cp r) (V := fun y => .agg y.x.c.toArray) (L' := Cp.L) (Lst := []) ⟨⟨r, kv2, uv2, hko, huo⟩, kb, ub, rfl, hk, hu⟩ hm (Lr := [_, _]) pend2

set_option maxRecDepth 10000 in set_option maxHeartbeats 4000000 in
theorem SideO_calls {l : List SX} (hll : l.length ≤ 8) (sb : Nat) (v : Value) (w : World) (hst : StW 76 w sb v l) {i : Nat} {s : SX} (hx : l[i]? = some s) (hkl : s.r.keys.length ≤ 1000000) (hul : s.r.used.length ≤ 1000000) :
    Turns Try.prog 14 [.pointer (some ⟨sb, 0, none⟩), .int .i64 (i : Int)] w [] (Y := Cp s.r) (fun y => .tuple #[.agg y.x.c.toArray, .bool true]) Cp.L := by
  refine enter Try.func14 rfl (Mem.nil w []) rfl ?_
  obtain ⟨hs1, hs2, hs3⟩ := hst
  have hi := (List.getElem?_eq_some_iff.1 hx).1
  obtain ⟨ad, c, rfl, hc, hcl, hr⟩ := hs2.pos (by omega)
  have hcell := cell_sb hs1
  have hok := hs3 s (List.mem_of_getElem? hx)
  have hI := fun w' hs' => in_calls sb l.length c (some ad) (by omega) (i : Int) w' hs'
  rw [show decide (0 ≤ (i : Int) ∧ (i : Int) < (l.length : Int)) = true from decide_eq_true (by omega)] at hI
  have hload : ∀ j u, s.c[j]? = some u → w.cell? ((ad.add (i * 42)).add j) = some u := fun j u hj => by
    rw [add_add]; exact hr _ u (rws_at SX.len hx j u hj)
  have hsl := s.len
  refine z_ ?_
  refine Run.nw nal ?_
  intro b4
  refine z_ ?_
  refine Run.op1 (OpTo.cv Try.func35 (fun w' hm => hI w' (hm.old hs1))) (fun _ => ?_)
  refine z_ ?_
  refine Run.a (vlo hcell) ?_
  refine z_ ?_
  refine Run.a (vix i hi (ad.add (i * 42))) ?_
  refine Run.a (vloA hload hsl) ?_
  have hz : ([(b4, Obj.cells zeroC.toArray 44 (0, 0))] : Hp).Perm ([] ++ [(b4, Obj.cells zeroC.toArray 44 (0, 0))]) := List.Perm.refl _
  refine Run.op1 (OpTo.callT Try.func32 hz (fun w' hm => copied_own s hkl hul w' (hok.fr hm.fr))) ?_
  intro y
  have hl2 := y.x.len
  refine Run.op1 (osa y.x.c.toArray y.x.one) (fun _ => ?_)
  refine z_ ?_
  exact RQ.ret2 rfl (Res.cellAll tabOk rfl rfl rfl m0 hl2) (Res.tmp rfl) fun w' hm => Turns.of (Y := Cp s.r) (V := fun y => Value.tuple #[.agg y.x.c.toArray, .bool true]) (L' := Cp.L) (Lst := []) y hm (Lr := [(b4, .cells y.x.c.toArray 44 (0, 0))]) (perm_of fun f => by (simp only [List.map_append, List.map_cons, List.map_nil, List.sum_append, List.sum_cons, List.sum_nil] <;> omega))
/-- The record that is made each time. -/
def rcF : Rc := rcNew 4 2 1 (certs 2) 4
theorem eq_prm {ln wd nd : Int} {kv : Value} : (prm ln wd nd kv).length = 4 := rfl
set_option maxRecDepth 10000 in set_option maxHeartbeats 4000000 in
theorem RegistryFull_calls (w : World) : Gives Try.prog 4 [] (.bool true) w := by
  refine enter Try.func4 rfl (Mem.nil w []) rfl ?_
  refine z_ ?_
  refine Run.op1 (OpTo.cv Try.func9 (fun w' _ => rg_awake_calls w')) (fun _ => ?_)
  refine z_ ?_
  refine Run.op1 (OpTo.callNew Try.func10 rfl rfl rfl rfl rfl rfl (fun w' _ => RNew_calls w')) ?_
  intro b
  refine z_ ?_
  refine Run.op1 (OpTo.callMkP Try.func12 rfl rfl rfl rfl rfl rfl (fun w' _ => Made_calls 2 1 w')) ?_
  rintro ⟨⟨kv, kb⟩, hown⟩
  dsimp only at hown ⊢
  refine Run.nw nal ?_
  intro b2
  refine Run.op1 (osa (prm 4 2 1 kv).toArray (prm_one hown.one)) (fun _ => ?_)
  refine z_ ?_
  obtain ⟨c0, hc0⟩ : ∃ p : (np : Hp) × PSt b np, p = ⟨[], stNil _ _ b []⟩ := ⟨_, rfl⟩
  have hl0 : ((b2, Obj.cells (prm 4 2 1 kv).toArray 31 (0, 0)) :: (kb ++ [(b, Obj.cells #[Value.slice none 0 0] 76 (0, 0))])).Perm ((c0.2.L ++ (c0.1 ++ kb)) ++ [(b2, Obj.cells (prm 4 2 1 kv).toArray 31 (0, 0))]) := by
    rw [hc0]; unfold StO.L stNil; exact (perm_of fun f => by (simp only [List.map_append, List.map_cons, List.map_nil, List.sum_append, List.sum_cons, List.sum_nil] <;> omega))
  refine RC.perm hl0 ?_
  refine RC.up 8 (D := (np : Hp) × PSt b np) (fun i p => p.2.rs = List.replicate i rcF) (fun i p => [(3, .int .i64 i), (2, .pointer (some ⟨b2, 0, none⟩)), (1, .pointer (some ⟨b, 0, none⟩))])
    (fun _ p => (p.2.L ++ (p.1 ++ kb)) ++ [(b2, Obj.cells (prm 4 2 1 kv).toArray 31 (0, 0))]) 0 c0 (Nat.zero_le _) (by rw [hc0]; rfl) ⟨rfl, rfl, rfl, trivial⟩ (List.Sublist.refl _) ?_
  clear hl0 hc0 c0
  rintro i ⟨np, st⟩ hi hrs
  dsimp only at hrs ⊢
  have hp1 : ((st.L ++ (np ++ kb)) ++ [(b2, Obj.cells (prm 4 2 1 kv).toArray 31 (0, 0))]).Perm ((st.L ++ kb) ++ ((b2, Obj.cells (prm 4 2 1 kv).toArray 31 (0, 0)) :: np)) := (perm_of fun f => by (simp only [List.map_append, List.map_cons, List.map_nil, List.sum_append, List.sum_cons, List.sum_nil] <;> omega))
  have hC := fun w' h1 h2 => Create_calls st (certs_HL 2) (by rw [certs_len]; decide) (ln := 4) (wd := 2) (nd := 1) (kv := kv) hown.one (ap := kb) (fun w hw => hown.srcW hw) 4 w' h1 h2
  refine z_ ?_
  (repeat refine RC.seq ?_); refine RC.wh rfl (fun h => RQ.next ?_) (fun h => ?_)
  · have hi' : i < 8 := by have := of_decide_eq_true h; omega
    clear h
    have e1 : createR st.rs (mayP 4 2 1 (certs 2)) (rcNew 4 2 1 (certs 2) 4) = (List.replicate (i + 1) rcF, (i : Int), 0) := by
      rw [may_certs (by decide) (by decide) (by decide) (by decide), hrs, createR_ok _ (by rw [List.length_replicate]; exact hi'), List.length_replicate, List.replicate_succ']; rfl
    simp only [e1] at hC
    refine z_ ?_
    refine Run.op1 (OpTo.callT Try.func11 hp1 (fun w' hm => hC w' (hasFst hp1 hm).1 (hasFst hp1 hm).2)) ?_
    rintro ⟨⟨np1, st1⟩, hrs1⟩
    dsimp only at hrs1 ⊢
    rw [e1] at hrs1
    refine z_ ?_
    exact RQ.upQ (i + 1) ⟨np1 ++ np, st1⟩ (Nat.lt_succ_self _) hi' hrs1 ⟨rfl, rfl, rfl, trivial⟩ (L1 := ((st1.L ++ ((np1 ++ np) ++ kb)) ++ [(b2, Obj.cells (prm 4 2 1 kv).toArray 31 (0, 0))]) ++ []) (perm_of fun f => by (simp only [List.map_append, List.map_cons, List.map_nil, List.sum_append, List.sum_cons, List.sum_nil] <;> omega)) (List.sublist_append_left _ _)
  have hi' : i = 8 := by have := of_decide_eq_false h; omega
  clear h
  subst hi'
  have e2 : createR st.rs (mayP 4 2 1 (certs 2)) (rcNew 4 2 1 (certs 2) 4) = (List.replicate 8 rcF, 0, 18) := by
    rw [may_certs (by decide) (by decide) (by decide) (by decide), hrs, createR_full _ (by rw [List.length_replicate]; decide)]
  simp only [e2] at hC
  (repeat refine RQ.thenExit ?_); refine RQ.blockHere ?_
  refine z_ ?_
  refine Run.op1 (OpTo.callT Try.func11 hp1 (fun w' hm => hC w' (hasFst hp1 hm).1 (hasFst hp1 hm).2)) ?_
  rintro ⟨⟨np1, st1⟩, hrs1⟩
  dsimp only at hrs1 ⊢
  rw [e2] at hrs1
  have hC2 := fun w' h1 h2 => Create_calls st1 (ks := []) (fun x hx => by cases hx) (Nat.zero_le _) (ln := 0) (wd := 0) (nd := 0) (kv := .slice none 0 0) rfl (ap := []) (fun w hw => SrcW.nil) 4 w' h1 h2
  have e3 : createR st1.rs (mayP 0 0 0 []) (rcNew 0 0 0 [] 4) = (List.replicate 8 rcF, 0, 4) := by
    rw [mayP_bad (by decide), createR_bad]; exact congrArg (·, 0, 4) hrs1
  simp only [e3] at hC2
  have hp2 : ((st1.L ++ (np1 ++ kb)) ++ ((b2, Obj.cells (prm 4 2 1 kv).toArray 31 (0, 0)) :: np)).Perm ((st1.L ++ []) ++ ((b2, Obj.cells (prm 4 2 1 kv).toArray 31 (0, 0)) :: (np1 ++ (kb ++ np)))) := (perm_of fun f => by (simp only [List.map_append, List.map_cons, List.map_nil, List.sum_append, List.sum_cons, List.sum_nil] <;> omega))
  refine z_ ?_
  refine Run.a (vbs (prm 0 0 0 (.slice none 0 0)).toArray) ?_
  refine Run.op1 (OpTo.callT Try.func11 hp2 (fun w' hm => hC2 w' (hasFst hp2 hm).1 (hasFst hp2 hm).2)) ?_
  rintro ⟨⟨np2, st2⟩, hrs2⟩
  dsimp only at hrs2 ⊢
  rw [e3] at hrs2
  have hl8 : st2.l.length = 8 := by
    have h := congrArg List.length hrs2
    rw [show st2.rs.length = st2.l.length from List.length_map _] at h
    exact h
  obtain ⟨s, hx⟩ : ∃ s, st2.l[2]? = some s := ⟨_, List.getElem?_eq_getElem (by omega)⟩
  have hsr : s.r = rcF := by
    have e : st2.rs[2]? = some s.r := by unfold StO.rs; rw [List.getElem?_map, hx]; rfl
    rw [hrs2] at e
    exact (Option.some.inj e).symm
  have hsk := st2.hk s (List.mem_of_getElem? hx)
  have hp3 : ((st2.L ++ (np2 ++ [])) ++ ((b2, Obj.cells (prm 4 2 1 kv).toArray 31 (0, 0)) :: (np1 ++ (kb ++ np)))).Perm ((st2.L ++ (np2 ++ (np1 ++ np))) ++ ((b2, Obj.cells (prm 4 2 1 kv).toArray 31 (0, 0)) :: kb)) := (perm_of fun f => by (simp only [List.map_append, List.map_cons, List.map_nil, List.sum_append, List.sum_cons, List.sum_nil] <;> omega))
  have hz3 : ((st2.L ++ (np2 ++ [])) ++ ((b2, Obj.cells (prm 4 2 1 kv).toArray 31 (0, 0)) :: (np1 ++ (kb ++ np)))).Perm ([] ++ ((b2, Obj.cells (prm 4 2 1 kv).toArray 31 (0, 0)) :: ((st2.L ++ (np2 ++ (np1 ++ np))) ++ kb))) := (perm_of fun f => by (simp only [List.map_append, List.map_cons, List.map_nil, List.sum_append, List.sum_cons, List.sum_nil] <;> omega))
  refine z_ ?_
  refine Run.op1 (OpTo.callT Try.func14 hz3 (fun w' hm => SideO_calls st2.h8 b st2.v w' (st2.w (hasFst hp3 hm).1.left (hasFst hp3 hm).1.right) hx hsk.1 hsk.2)) ?_
  rintro ⟨⟨r1, kv1, uv1, o1, o2⟩, kb1, ub1, hr1, hk1, hu1⟩
  unfold Cp.L
  dsimp only at hr1 hk1 hu1 ⊢
  rw [hsr] at hr1 hk1
  subst hr1
  refine z_ ?_
  refine Run.nw nal ?_
  intro b10
  refine Run.op1 (osa (rcF.c kv1 uv1).toArray (Rc.one _ o1 o2)) (fun _ => ?_)
  refine z_ ?_
  refine Run.nw (nbsk (i64L [1, 2]).toArray) ?_
  intro b16
  refine z_ ?_
  refine Run.op1 (os1 (⟨{ rcF with used := [1, 2] }, kv1, .slice (some ⟨b16, 0, none⟩) 2 2, o1, rfl⟩ : SX).c.toArray) (fun _ => ?_)
  have how : Own 3 1 (.slice (some ⟨b16, 0, none⟩) 2 2) 2 (i64L [1, 2]) [(b16, Obj.cells (i64L [1, 2]).toArray 3 (0, 0))] := Own.row b16 2 2 (i64L [1, 2]) [] rfl rfl (Nat.le_refl _) (by unfold maxLen; decide)
  have hko : ∀ w, Has (kb1 ++ [(b16, Obj.cells (i64L [1, 2]).toArray 3 (0, 0))]) w → (⟨{ rcF with used := [1, 2] }, kv1, .slice (some ⟨b16, 0, none⟩) 2 2, o1, rfl⟩ : SX).ok w := fun w hw => by
    exact ⟨hk1.srcW hw.left, how.srcW hw.right⟩
  have hS := fun w' h1 h2 => Set_calls st2 hx (⟨{ rcF with used := [1, 2] }, kv1, .slice (some ⟨b16, 0, none⟩) 2 2, o1, rfl⟩ : SX) (Nat.le_of_ble_eq_true rfl) (Nat.le_of_ble_eq_true rfl) (ap := kb1 ++ [(b16, Obj.cells (i64L [1, 2]).toArray 3 (0, 0))]) hko w' h1 h2
  have hp4 : ((b10, Obj.cells (⟨{ rcF with used := [1, 2] }, kv1, .slice (some ⟨b16, 0, none⟩) 2 2, o1, rfl⟩ : SX).c.toArray 44 (0, 0)) :: (b16, Obj.cells (i64L [1, 2]).toArray 3 (0, 0)) :: ((kb1 ++ ub1) ++ ((b2, Obj.cells (prm 4 2 1 kv).toArray 31 (0, 0)) :: ((st2.L ++ (np2 ++ (np1 ++ np))) ++ kb)))).Perm ((st2.L ++ (kb1 ++ [(b16, Obj.cells (i64L [1, 2]).toArray 3 (0, 0))])) ++ ((b10, Obj.cells (⟨{ rcF with used := [1, 2] }, kv1, .slice (some ⟨b16, 0, none⟩) 2 2, o1, rfl⟩ : SX).c.toArray 44 (0, 0)) :: (b2, Obj.cells (prm 4 2 1 kv).toArray 31 (0, 0)) :: (ub1 ++ (np2 ++ (np1 ++ (np ++ kb)))))) := (perm_of fun f => by (simp only [List.map_append, List.map_cons, List.map_nil, List.sum_append, List.sum_cons, List.sum_nil] <;> omega))
  refine z_ ?_
  refine Run.op1 (OpTo.callT Try.func17 hp4 (fun w' hm => hS w' (hasFst hp4 hm).1 (hasFst hp4 hm).2)) ?_
  rintro ⟨⟨np3, st3⟩, hrs3⟩
  dsimp only at hrs3 ⊢
  rw [hrs2] at hrs3
  refine z_ ?_
  refine Run.a (vix 0 (show 0 < 2 by decide) ⟨b16, 0, none⟩) ?_
  refine Run.op1 (os1 (arr := (i64L [1, 2]).toArray) (e := 3) (i64L [9, 2]).toArray (L' := (b10, Obj.cells (⟨{ rcF with used := [1, 2] }, kv1, .slice (some ⟨b16, 0, none⟩) 2 2, o1, rfl⟩ : SX).c.toArray 44 (0, 0)) :: (b2, Obj.cells (prm 4 2 1 kv).toArray 31 (0, 0)) :: (st3.L ++ (np3 ++ (kb1 ++ (ub1 ++ (np2 ++ (np1 ++ (np ++ kb)))))))) (hL := (perm_of fun f => by (simp only [List.map_append, List.map_cons, List.map_nil, List.sum_append, List.sum_cons, List.sum_nil] <;> omega)))) (fun _ => ?_)
  have h38 : st3.l.length = 8 := by
    have h := congrArg List.length hrs3
    rw [show st3.rs.length = st3.l.length from List.length_map _] at h
    exact h
  obtain ⟨s3, hx3⟩ : ∃ s, st3.l[2]? = some s := ⟨_, List.getElem?_eq_getElem (by omega)⟩
  have h3r : s3.r = { rcF with used := [1, 2] } := by
    have e : st3.rs[2]? = some s3.r := by unfold StO.rs; rw [List.getElem?_map, hx3]; rfl
    rw [hrs3] at e
    exact (Option.some.inj e).symm
  have h3k := st3.hk s3 (List.mem_of_getElem? hx3)
  have hp5 : ((b16, Obj.cells (i64L [9, 2]).toArray 3 (0, 0)) :: (b10, Obj.cells (⟨{ rcF with used := [1, 2] }, kv1, .slice (some ⟨b16, 0, none⟩) 2 2, o1, rfl⟩ : SX).c.toArray 44 (0, 0)) :: (b2, Obj.cells (prm 4 2 1 kv).toArray 31 (0, 0)) :: (st3.L ++ (np3 ++ (kb1 ++ (ub1 ++ (np2 ++ (np1 ++ (np ++ kb)))))))).Perm ((st3.L ++ (np3 ++ (np2 ++ (np1 ++ np)))) ++ ((b16, Obj.cells (i64L [9, 2]).toArray 3 (0, 0)) :: (b10, Obj.cells (⟨{ rcF with used := [1, 2] }, kv1, .slice (some ⟨b16, 0, none⟩) 2 2, o1, rfl⟩ : SX).c.toArray 44 (0, 0)) :: (b2, Obj.cells (prm 4 2 1 kv).toArray 31 (0, 0)) :: (kb1 ++ (ub1 ++ kb)))) := (perm_of fun f => by (simp only [List.map_append, List.map_cons, List.map_nil, List.sum_append, List.sum_cons, List.sum_nil] <;> omega))
  have hz5 : ((b16, Obj.cells (i64L [9, 2]).toArray 3 (0, 0)) :: (b10, Obj.cells (⟨{ rcF with used := [1, 2] }, kv1, .slice (some ⟨b16, 0, none⟩) 2 2, o1, rfl⟩ : SX).c.toArray 44 (0, 0)) :: (b2, Obj.cells (prm 4 2 1 kv).toArray 31 (0, 0)) :: (st3.L ++ (np3 ++ (kb1 ++ (ub1 ++ (np2 ++ (np1 ++ (np ++ kb)))))))).Perm ([] ++ ((b16, Obj.cells (i64L [9, 2]).toArray 3 (0, 0)) :: (b10, Obj.cells (⟨{ rcF with used := [1, 2] }, kv1, .slice (some ⟨b16, 0, none⟩) 2 2, o1, rfl⟩ : SX).c.toArray 44 (0, 0)) :: (b2, Obj.cells (prm 4 2 1 kv).toArray 31 (0, 0)) :: ((st3.L ++ (np3 ++ (np2 ++ (np1 ++ np)))) ++ (kb1 ++ (ub1 ++ kb))))) := (perm_of fun f => by (simp only [List.map_append, List.map_cons, List.map_nil, List.sum_append, List.sum_cons, List.sum_nil] <;> omega))
  refine z_ ?_
  refine Run.op1 (OpTo.callT Try.func14 hz5 (fun w' hm => SideO_calls st3.h8 b st3.v w' (st3.w (hasFst hp5 hm).1.left (hasFst hp5 hm).1.right) hx3 h3k.1 h3k.2)) ?_
  rintro ⟨⟨r2, kv2, uv2, o3, o4⟩, kb2, ub2, hr2, hk2, hu2⟩
  unfold Cp.L
  dsimp only at hr2 hk2 hu2 ⊢
  rw [h3r] at hr2 hk2 hu2
  subst hr2
  obtain ⟨bk, ck, restk, rfl, rfl, hk3, hk4, hk5, hk6⟩ := (show Own 35 8 kv2 2 (u8s (certs 2).flatten) kb2 from hk2).pos (by decide)
  obtain ⟨bu, cu, restu, rfl, rfl, hu3, hu4, hu5, hu6⟩ := (show Own 3 1 uv2 2 (i64L [1, 2]) ub2 from hu2).pos (by decide)
  refine z_ ?_
  refine Run.nw nal ?_
  intro b13
  refine Run.op1 (osa (Rc.c { rcF with used := [1, 2] } (.slice (some ⟨bk, 0, none⟩) 2 ck) (.slice (some ⟨bu, 0, none⟩) 2 cu)).toArray (Rc.one _ o3 o4)) (fun _ => ?_)
  refine z_ ?_
  refine Run.a (vix 1 (show 1 < 2 by decide) ⟨bu, 1, none⟩) ?_
  refine Run.op1 (os1 (arr := (i64L [1, 2] ++ restu).toArray) (e := 3) (i64L [1, 9] ++ restu).toArray (L' := (b13, Obj.cells (Rc.c { rcF with used := [1, 2] } (.slice (some ⟨bk, 0, none⟩) 2 ck) (.slice (some ⟨bu, 0, none⟩) 2 cu)).toArray 44 (0, 0)) :: (bk, Obj.cells (u8s (certs 2).flatten ++ restk).toArray 35 (0, 0)) :: (b16, Obj.cells (i64L [9, 2]).toArray 3 (0, 0)) :: (b10, Obj.cells (⟨{ rcF with used := [1, 2] }, kv1, .slice (some ⟨b16, 0, none⟩) 2 2, o1, rfl⟩ : SX).c.toArray 44 (0, 0)) :: (b2, Obj.cells (prm 4 2 1 kv).toArray 31 (0, 0)) :: ((st3.L ++ (np3 ++ (np2 ++ (np1 ++ np)))) ++ (kb1 ++ (ub1 ++ kb)))) (hL := (perm_of fun f => by (simp only [List.map_append, List.map_cons, List.map_nil, List.sum_append, List.sum_cons, List.sum_nil] <;> omega))) (he := by rfl) (hf := by rw [List.size_toArray, List.length_append]; exact Nat.le_add_right 2 _)) (fun _ => ?_)
  refine z_ ?_
  refine Run.a (vba (u8s [0, 0, 0, 0, 0, 0, 0, 0]).toArray) ?_
  refine Run.a (vix 0 (show 0 < 2 by decide) ⟨bk, 0, none⟩) ?_
  refine Run.op1 (os1 (arr := (u8s (certs 2).flatten ++ restk).toArray) (e := 35) (v := .agg (u8s [0, 0, 0, 0, 0, 0, 0, 0]).toArray) (wrAt (u8s (certs 2).flatten ++ restk).toArray 0 (u8s [0, 0, 0, 0, 0, 0, 0, 0])) (h1 := fun u hu => u8s_one _ u hu) (hf := by rw [List.size_toArray, List.length_append, hk3]; exact Nat.le_trans (by decide) (Nat.le_add_right 16 _))) (fun _ => ?_)
  obtain ⟨bq, cq, restq, rfl, rfl, hq3, hq4, hq5, hq6⟩ := (show Own 35 8 kv 2 (u8s (certs 2).flatten) kb from hown).pos (by decide)
  have hp6 : ((bk, Obj.cells (wrAt (u8s (certs 2).flatten ++ restk).toArray 0 (u8s [0, 0, 0, 0, 0, 0, 0, 0])) 35 (0, 0)) :: (bu, Obj.cells (i64L [1, 9] ++ restu).toArray 3 (0, 0)) :: (b13, Obj.cells (Rc.c { rcF with used := [1, 2] } (.slice (some ⟨bk, 0, none⟩) 2 ck) (.slice (some ⟨bu, 0, none⟩) 2 cu)).toArray 44 (0, 0)) :: (b16, Obj.cells (i64L [9, 2]).toArray 3 (0, 0)) :: (b10, Obj.cells (⟨{ rcF with used := [1, 2] }, kv1, .slice (some ⟨b16, 0, none⟩) 2 2, o1, rfl⟩ : SX).c.toArray 44 (0, 0)) :: (b2, Obj.cells (prm 4 2 1 (.slice (some ⟨bq, 0, none⟩) 2 cq)).toArray 31 (0, 0)) :: ((st3.L ++ (np3 ++ (np2 ++ (np1 ++ np)))) ++ (kb1 ++ (ub1 ++ [(bq, Obj.cells (u8s (certs 2).flatten ++ restq).toArray 35 (0, 0))])))).Perm ((st3.L ++ (np3 ++ (np2 ++ (np1 ++ np)))) ++ ((b10, Obj.cells (⟨{ rcF with used := [1, 2] }, kv1, .slice (some ⟨b16, 0, none⟩) 2 2, o1, rfl⟩ : SX).c.toArray 44 (0, 0)) :: (b2, Obj.cells (prm 4 2 1 (.slice (some ⟨bq, 0, none⟩) 2 cq)).toArray 31 (0, 0)) :: (bq, Obj.cells (u8s (certs 2).flatten ++ restq).toArray 35 (0, 0)) :: ((bk, Obj.cells (wrAt (u8s (certs 2).flatten ++ restk).toArray 0 (u8s [0, 0, 0, 0, 0, 0, 0, 0])) 35 (0, 0)) :: (bu, Obj.cells (i64L [1, 9] ++ restu).toArray 3 (0, 0)) :: (b13, Obj.cells (Rc.c { rcF with used := [1, 2] } (.slice (some ⟨bk, 0, none⟩) 2 ck) (.slice (some ⟨bu, 0, none⟩) 2 cu)).toArray 44 (0, 0)) :: (b16, Obj.cells (i64L [9, 2]).toArray 3 (0, 0)) :: (kb1 ++ ub1)))) := (perm_of fun f => by (simp only [List.map_append, List.map_cons, List.map_nil, List.sum_append, List.sum_cons, List.sum_nil] <;> omega))
  have hz6 : ((bk, Obj.cells (wrAt (u8s (certs 2).flatten ++ restk).toArray 0 (u8s [0, 0, 0, 0, 0, 0, 0, 0])) 35 (0, 0)) :: (bu, Obj.cells (i64L [1, 9] ++ restu).toArray 3 (0, 0)) :: (b13, Obj.cells (Rc.c { rcF with used := [1, 2] } (.slice (some ⟨bk, 0, none⟩) 2 ck) (.slice (some ⟨bu, 0, none⟩) 2 cu)).toArray 44 (0, 0)) :: (b16, Obj.cells (i64L [9, 2]).toArray 3 (0, 0)) :: (b10, Obj.cells (⟨{ rcF with used := [1, 2] }, kv1, .slice (some ⟨b16, 0, none⟩) 2 2, o1, rfl⟩ : SX).c.toArray 44 (0, 0)) :: (b2, Obj.cells (prm 4 2 1 (.slice (some ⟨bq, 0, none⟩) 2 cq)).toArray 31 (0, 0)) :: ((st3.L ++ (np3 ++ (np2 ++ (np1 ++ np)))) ++ (kb1 ++ (ub1 ++ [(bq, Obj.cells (u8s (certs 2).flatten ++ restq).toArray 35 (0, 0))])))).Perm ([] ++ ((b10, Obj.cells (⟨{ rcF with used := [1, 2] }, kv1, .slice (some ⟨b16, 0, none⟩) 2 2, o1, rfl⟩ : SX).c.toArray 44 (0, 0)) :: (b2, Obj.cells (prm 4 2 1 (.slice (some ⟨bq, 0, none⟩) 2 cq)).toArray 31 (0, 0)) :: (bq, Obj.cells (u8s (certs 2).flatten ++ restq).toArray 35 (0, 0)) :: ((st3.L ++ (np3 ++ (np2 ++ (np1 ++ np)))) ++ ((bk, Obj.cells (wrAt (u8s (certs 2).flatten ++ restk).toArray 0 (u8s [0, 0, 0, 0, 0, 0, 0, 0])) 35 (0, 0)) :: (bu, Obj.cells (i64L [1, 9] ++ restu).toArray 3 (0, 0)) :: (b13, Obj.cells (Rc.c { rcF with used := [1, 2] } (.slice (some ⟨bk, 0, none⟩) 2 ck) (.slice (some ⟨bu, 0, none⟩) 2 cu)).toArray 44 (0, 0)) :: (b16, Obj.cells (i64L [9, 2]).toArray 3 (0, 0)) :: (kb1 ++ ub1))))) := (perm_of fun f => by (simp only [List.map_append, List.map_cons, List.map_nil, List.sum_append, List.sum_cons, List.sum_nil] <;> omega))
  refine z_ ?_
  refine Run.op1 (OpTo.callT Try.func14 hz6 (fun w' hm => SideO_calls st3.h8 b st3.v w' (st3.w (hasFst hp6 hm).1.left (hasFst hp6 hm).1.right) hx3 h3k.1 h3k.2)) ?_
  rintro ⟨⟨r3, kv3, uv3, o5, o6⟩, kb3, ub3, hr3, hc3, hd3⟩
  unfold Cp.L
  dsimp only at hr3 hc3 hd3 ⊢
  rw [h3r] at hr3 hc3 hd3
  subst hr3
  obtain ⟨bk3, ck3, restk3, rfl, rfl, he3, he4, he5, he6⟩ := (show Own 35 8 kv3 2 (u8s (certs 2).flatten) kb3 from hc3).pos (by decide)
  obtain ⟨bu3, cu3, restu3, rfl, rfl, hf3, hf4, hf5, hf6⟩ := (show Own 3 1 uv3 2 (i64L [1, 2]) ub3 from hd3).pos (by decide)
  refine z_ ?_
  refine Run.nw nal ?_
  intro b15
  refine Run.op1 (osa (Rc.c { rcF with used := [1, 2] } (.slice (some ⟨bk3, 0, none⟩) 2 ck3) (.slice (some ⟨bu3, 0, none⟩) 2 cu3)).toArray (Rc.one _ o5 o6)) (fun _ => ?_)
  have hp7 : ((b15, Obj.cells (Rc.c { rcF with used := [1, 2] } (.slice (some ⟨bk3, 0, none⟩) 2 ck3) (.slice (some ⟨bu3, 0, none⟩) 2 cu3)).toArray 44 (0, 0)) :: (([(bk3, Obj.cells (u8s (certs 2).flatten ++ restk3).toArray 35 (0, 0))] ++ [(bu3, Obj.cells (i64L [1, 2] ++ restu3).toArray 3 (0, 0))]) ++ ((b10, Obj.cells (⟨{ rcF with used := [1, 2] }, kv1, .slice (some ⟨b16, 0, none⟩) 2 2, o1, rfl⟩ : SX).c.toArray 44 (0, 0)) :: (b2, Obj.cells (prm 4 2 1 (.slice (some ⟨bq, 0, none⟩) 2 cq)).toArray 31 (0, 0)) :: (bq, Obj.cells (u8s (certs 2).flatten ++ restq).toArray 35 (0, 0)) :: ((st3.L ++ (np3 ++ (np2 ++ (np1 ++ np)))) ++ ((bk, Obj.cells (wrAt (u8s (certs 2).flatten ++ restk).toArray 0 (u8s [0, 0, 0, 0, 0, 0, 0, 0])) 35 (0, 0)) :: (bu, Obj.cells (i64L [1, 9] ++ restu).toArray 3 (0, 0)) :: (b13, Obj.cells (Rc.c { rcF with used := [1, 2] } (.slice (some ⟨bk, 0, none⟩) 2 ck) (.slice (some ⟨bu, 0, none⟩) 2 cu)).toArray 44 (0, 0)) :: (b16, Obj.cells (i64L [9, 2]).toArray 3 (0, 0)) :: (kb1 ++ ub1)))))).Perm ((st3.L ++ (np3 ++ (np2 ++ (np1 ++ np)))) ++ ((b15, Obj.cells (Rc.c { rcF with used := [1, 2] } (.slice (some ⟨bk3, 0, none⟩) 2 ck3) (.slice (some ⟨bu3, 0, none⟩) 2 cu3)).toArray 44 (0, 0)) :: (b10, Obj.cells (⟨{ rcF with used := [1, 2] }, kv1, .slice (some ⟨b16, 0, none⟩) 2 2, o1, rfl⟩ : SX).c.toArray 44 (0, 0)) :: (b2, Obj.cells (prm 4 2 1 (.slice (some ⟨bq, 0, none⟩) 2 cq)).toArray 31 (0, 0)) :: (bq, Obj.cells (u8s (certs 2).flatten ++ restq).toArray 35 (0, 0)) :: (bk3, Obj.cells (u8s (certs 2).flatten ++ restk3).toArray 35 (0, 0)) :: (bu3, Obj.cells (i64L [1, 2] ++ restu3).toArray 3 (0, 0)) :: ((bk, Obj.cells (wrAt (u8s (certs 2).flatten ++ restk).toArray 0 (u8s [0, 0, 0, 0, 0, 0, 0, 0])) 35 (0, 0)) :: (bu, Obj.cells (i64L [1, 9] ++ restu).toArray 3 (0, 0)) :: (b13, Obj.cells (Rc.c { rcF with used := [1, 2] } (.slice (some ⟨bk, 0, none⟩) 2 ck) (.slice (some ⟨bu, 0, none⟩) 2 cu)).toArray 44 (0, 0)) :: (b16, Obj.cells (i64L [9, 2]).toArray 3 (0, 0)) :: (kb1 ++ ub1)))) := (perm_of fun f => by (simp only [List.map_append, List.map_cons, List.map_nil, List.sum_append, List.sum_cons, List.sum_nil] <;> omega))
  have hB := fun w' hs z hz x => Set_bad st3.v (sb := b) st3.h8 w' hs z hz x
  obtain ⟨k0, k1, hcc, h08⟩ : ∃ k0 k1 : List Nat, certs 2 = [k0, k1] ∧ k0.length = 8 := ⟨_, _, rfl, (certs_HL 2 _ (List.mem_cons_self)).1⟩
  have hrd : ∀ rest : List Value, ∀ j u, (u8s k0)[j]? = some u → (u8s (certs 2).flatten ++ rest).toArray[0 + j]? = some u := fun rest j u hj => by
    have hlt := (List.getElem?_eq_some_iff.1 hj).1
    rw [List.getElem?_toArray, Nat.zero_add, hcc, List.flatten_cons, u8s_app, List.append_assoc, List.getElem?_append_left hlt]
    exact hj
  refine z_ ?_
  (repeat refine RC.seq ?_); refine RC.drawS mixed (N := 54) rfl ?_
  refine dt 0 ?_
  refine dt 1 ?_
  refine dt 2 ?_
  refine dt 3 ?_
  refine dt 4 ?_
  refine dt 5 ?_
  refine dt 6 ?_
  refine dt 7 ?_
  refine dt 8 ?_
  refine dt 9 ?_
  refine dt 10 ?_
  refine DR.t 11 rfl (vla) ?_
  refine DR.c 12 (DOp.op1 rfl (OpTo.cv Try.func17 (fun w' hm => hB w' (st3.w (hasFst hp7 hm).1.left (hasFst hp7 hm).1.right) 8 (by rw [h38]; decide) (⟨{ rcF with used := [1, 2] }, kv1, .slice (some ⟨b16, 0, none⟩) 2 2, o1, rfl⟩ : SX))) (fun _ => ?_))
  refine dt 13 ?_
  refine dt 14 ?_
  refine dt 15 ?_
  refine dt 16 ?_
  refine DR.t 17 rfl (vla) ?_
  refine DR.c 18 (DOp.op1 rfl (OpTo.cv Try.func17 (fun w' hm => hB w' (st3.w (hasFst hp7 hm).1.left (hasFst hp7 hm).1.right) (-1) (fun h => absurd h.1 (by decide)) (⟨{ rcF with used := [1, 2] }, kv1, .slice (some ⟨b16, 0, none⟩) 2 2, o1, rfl⟩ : SX))) (fun _ => ?_))
  refine dt 19 ?_
  refine dt 20 ?_
  refine dt 21 ?_
  refine dt 22 ?_
  refine dt 23 ?_
  refine dt 24 ?_
  refine dt 25 ?_
  refine dt 26 ?_
  refine dt 27 ?_
  refine dt 28 ?_
  refine dt 29 ?_
  refine DR.t 30 rfl (vix 0 (show 0 < 2 by decide) ⟨bu3, 0, none⟩) ?_
  refine DR.t 31 rfl (vl (.int .i64 1) (hv := by kernel_rfl)) ?_
  refine dt 32 ?_
  refine dt 33 ?_
  refine dt 34 ?_
  refine dt 35 ?_
  refine dt 36 ?_
  refine DR.t 37 rfl (vix 1 (show 1 < 2 by decide) ⟨bu3, 1, none⟩) ?_
  refine DR.t 38 rfl (vl (.int .i64 2) (hv := by kernel_rfl)) ?_
  refine dt 39 ?_
  refine dt 40 ?_
  refine dt 41 ?_
  refine dt 42 ?_
  refine dt 43 ?_
  refine dt 44 ?_
  refine DR.t 45 rfl (vix 0 (show 0 < 2 by decide) ⟨bk3, 0, none⟩) ?_
  refine DR.t 46 rfl (Val.loadR (cs := u8s k0) tabOk rfl rfl rfl rfl (by rw [u8s_len, h08]; rfl) (Rd.row (off := 0) m1 (hrd restk3))) ?_
  refine dt 47 ?_
  refine dt 48 ?_
  refine DR.t 49 rfl (vix 0 (show 0 < 2 by decide) ⟨bq, 0, none⟩) ?_
  refine DR.t 50 rfl (Val.loadR (cs := u8s k0) tabOk rfl rfl rfl rfl (by rw [u8s_len, h08]; rfl) (Rd.row (off := 0) m5 (hrd restq))) ?_
  refine DR.t 51 rfl (Val.eq (Val.eqArr tabOk (a := k0) (b := k0) rfl rfl rfl rfl rfl (by kernel_rfl) (by kernel_rfl) (by kernel_rfl) rfl rfl h08 h08) (show _ = Value.bool true from by rw [decide_eq_true rfl])) ?_
  refine dt 52 ?_
  refine dt 53 ?_
  refine DR.done (by kernel_rfl) ?_
  refine z_ ?_
  exact RQ.ret1 rfl (Res.tmp rfl) fun w' hm => ⟨rfl, hm.fr⟩
end Go.Proofs.Ytnhnihkpacibgaa
