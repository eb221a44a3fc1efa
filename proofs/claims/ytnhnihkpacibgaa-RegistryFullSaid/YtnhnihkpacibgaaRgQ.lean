/- registry's law: RegistryCopies. -/
import Derived.Test.YtnhnihkpacibgaaRgP
import Derived.Test.YtnhnihkpacibgaaVcT
set_option linter.unusedSimpArgs false
set_option linter.unusedVariables false
namespace Go.Proofs.Ytnhnihkpacibgaa
attribute [local irreducible] Go.Vc.Run Go.Vc.RC Go.Vc.RQ Go.Vc.DR Go.Vc.DOp
open Go Go.Vc Go.Sha
def stMono {tS tR : TypeId} {sb : Nat} {pool pool' : Hp} (st : StO tS tR sb pool) (h : ∀ p ∈ pool, p ∈ pool') : StO tS tR sb pool' := ⟨st.v, st.bb, st.l, st.own, st.nd, st.h8, st.hk, fun w hw => st.kn w (hw.sub h)⟩
/-- What one deed leaves of two. -/
structure DoS (sb mb : Nat) (q1 q2 : Hp) where
  np1 : Hp
  np2 : Hp
  st : PSt sb (np1 ++ q1)
  sm : RSt mb (np2 ++ q2)
  eq : st.rs = sm.rs
  inv : RI st.rs
def DoS.L {sb mb : Nat} {q1 q2 : Hp} (y : DoS sb mb q1 q2) : Hp := y.st.L ++ (y.sm.L ++ (y.np1 ++ y.np2))
theorem do_of {sb mb : Nat} {q1 q2 Lst L1 Lr : Hp} {w w' : World} {x : Value} (y : DoS sb mb q1 q2) (hm : Mem w (Lst.map (·.1)) L1 w') (hp : L1.Perm (y.L ++ Lr)) :
    ∃ y' : DoS sb mb q1 q2, Ending.returned x = .returned x ∧ Fr (Lst.map (·.1)) w w' ∧ Has y'.L w' ∧ (∀ p ∈ y'.L, w.heap.size ≤ p.1 ∨ p.1 ∈ Lst.map (·.1)) ∧ (y'.L.map (·.1)).Nodup :=
  Turns.of (Y := DoS sb mb q1 q2) (V := fun _ => x) (L' := DoS.L) y hm hp
theorem same_of {sb mb : Nat} {q1 q2 : Hp} (st : PSt sb q1) (sm : RSt mb q2) (heq : st.rs = sm.rs) (hinv : RI st.rs) {w' : World} (h1 : Has st.L w') (h2 : Has sm.L w') (h3 : Has q1 w') (h4 : Has q2 w') :
    Gives Try.prog 23 [.pointer (some ⟨sb, 0, none⟩), .pointer (some ⟨mb, 0, none⟩)] (.bool true) w' := by
  have hlen : st.rs.length ≤ 8 := by unfold StO.rs; rw [List.length_map]; exact st.h8
  exact Same_calls heq st.h8 (fun r hr => (hinv r hr).1) (RI_tot hinv hlen) st.hk (fun s hs => (hinv s.r (List.mem_map_of_mem hs)).2.2.2) sb mb st.v sm.v w' (st.w h1 h3) (sm.w h2 h4)

set_option maxRecDepth 10000 in set_option maxHeartbeats 4000000 in
theorem do_calls {sb mb : Nat} {q1 q2 : Hp} (st : PSt sb q1) (sm : RSt mb q2) (heq : st.rs = sm.rs) (hinv : RI st.rs) (d n k fs fa fm : Int) (hsb : -9223372036854775808 ≤ fs ∧ fs ≤ 9223372036854775807) (o0 o1 o2 o3 o4 o5 o6 o7 : Nat) (w : World)
    (hw : Has (st.L ++ sm.L) w) (hnd : ((st.L ++ sm.L).map (·.1)).Nodup) :
    Turns Try.prog 18 [.pointer (some ⟨sb, 0, none⟩), .pointer (some ⟨mb, 0, none⟩), .agg (deC d n k (fwdC fs fa [o0, o1, o2, o3, o4, o5, o6, o7] fm)).toArray] w (st.L ++ sm.L) (Y := DoS sb mb q1 q2) (fun _ => .bool true) DoS.L := by
  refine enter Try.func18 rfl (Mem.init (S0 := (st.L ++ sm.L).map (·.1)) hw (fun p hp => List.mem_map_of_mem hp) hnd) rfl ?_
  have hnn := RI_nn hinv
  have hnm : ∀ r ∈ sm.rs, 0 ≤ r.bal ∧ 0 ≤ r.fwd := by rw [← heq]; exact hnn
  refine z_ ?_
  refine Run.nw nbx ?_
  intro b5
  refine z_ ?_
  refine RC.cond rfl (fun h => ?_) (fun h => ?_)
  · refine z_ ?_
    refine Run.op1 (OpTo.callD Try.func12 (fun w' _ => Made_any _ _ w')) ?_
    rintro ⟨⟨⟨m7, nd, kv⟩, kb⟩, ⟨hm8, hko⟩, hksrc⟩
    dsimp only at hm8 hko hksrc ⊢
    refine Run.nw nal ?_
    intro b7
    refine Run.op1 (osa (prm 4 2 nd kv).toArray (prm_one hko)) (fun _ => ?_)
    refine z_ ?_
    have hp1 : ((b7, .cells (prm 4 2 nd kv).toArray 31 (0, 0)) :: (kb ++ ((b5, .cells (deC d n k (fwdC fs fa [o0, o1, o2, o3, o4, o5, o6, o7] fm)).toArray 56 (0, 0)) :: (st.L ++ sm.L)))).Perm ((st.L ++ kb) ++ ((b7, .cells (prm 4 2 nd kv).toArray 31 (0, 0)) :: (b5, .cells (deC d n k (fwdC fs fa [o0, o1, o2, o3, o4, o5, o6, o7] fm)).toArray 56 (0, 0)) :: sm.L)) := (perm_of fun f => by (simp only [List.map_append, List.map_cons, List.map_nil, List.sum_append, List.sum_cons, List.sum_nil] <;> omega))
    refine Run.op1 (OpTo.callT Try.func11 hp1 (fun w' hm => Create_calls st (certs_HL m7) (by rw [certs_len]; omega) hko hksrc _ w' (hasFst hp1 hm).1 (hasFst hp1 hm).2)) ?_
    rintro ⟨⟨np1, st1⟩, hrs1⟩
    dsimp only at hrs1 ⊢
    refine z_ ?_
    have hp2 : (st1.L ++ (np1 ++ kb) ++ ((b7, .cells (prm 4 2 nd kv).toArray 31 (0, 0)) :: (b5, .cells (deC d n k (fwdC fs fa [o0, o1, o2, o3, o4, o5, o6, o7] fm)).toArray 56 (0, 0)) :: sm.L)).Perm ((sm.L ++ kb) ++ ((b7, .cells (prm 4 2 nd kv).toArray 31 (0, 0)) :: (b5, .cells (deC d n k (fwdC fs fa [o0, o1, o2, o3, o4, o5, o6, o7] fm)).toArray 56 (0, 0)) :: (st1.L ++ np1))) := (perm_of fun f => by (simp only [List.map_append, List.map_cons, List.map_nil, List.sum_append, List.sum_cons, List.sum_nil] <;> omega))
    refine Run.op1 (OpTo.callT Try.func19 hp2 (fun w' hm => ref_Create_calls sm (certs_HL m7) (by rw [certs_len]; omega) hko hksrc _ w' (hasFst hp2 hm).1 (hasFst hp2 hm).2)) ?_
    rintro ⟨⟨np2, sm1⟩, hrs2⟩
    dsimp only at hrs2 ⊢
    rw [← heq] at hrs2 ⊢
    refine z_ ?_
    exact RQ.ret1 rfl (Res.tmp rfl) fun w' hm => do_of ⟨np1, np2, st1, sm1, hrs1.trans hrs2.symm, by rw [hrs1]; exact RI_create hinv (certs_HL m7)⟩ hm (Lr := (b7, .cells (prm 4 2 nd kv).toArray 31 (0, 0)) :: (b5, .cells (deC d n k (fwdC fs fa [o0, o1, o2, o3, o4, o5, o6, o7] fm)).toArray 56 (0, 0)) :: kb) (by unfold DoS.L; exact (perm_of fun f => by (simp only [List.map_append, List.map_cons, List.map_nil, List.sum_append, List.sum_cons, List.sum_nil] <;> omega)))
  · refine z_ ?_
    (repeat refine RC.seq ?_); refine RC.draw ([(b5, .cells (deC d n k (fwdC fs fa [o0, o1, o2, o3, o4, o5, o6, o7] fm)).toArray 56 (0, 0))]) mixed (N := 10) rfl ?_
    refine dt 0 ?_
    refine dt 1 ?_
    refine DR.t 2 rfl (vl (.agg (fwdC fs fa [o0, o1, o2, o3, o4, o5, o6, o7] fm).toArray) (hv := by kernel_rfl)) ?_
    refine dt 4 ?_
    refine dt 5 ?_
    refine DR.t 6 rfl (vl (.agg (fwdC fs fa [o0, o1, o2, o3, o4, o5, o6, o7] fm).toArray) (hv := by kernel_rfl)) ?_
    have hp1 : ((b5, .cells (deC d n k (fwdC fs fa [o0, o1, o2, o3, o4, o5, o6, o7] fm)).toArray 56 (0, 0)) :: (st.L ++ sm.L)).Perm (st.L ++ ((b5, .cells (deC d n k (fwdC fs fa [o0, o1, o2, o3, o4, o5, o6, o7] fm)).toArray 56 (0, 0)) :: sm.L)) := (perm_of fun f => by (simp only [List.map_append, List.map_cons, List.map_nil, List.sum_append, List.sum_cons, List.sum_nil] <;> omega))
    refine DR.c 3 (DOp.op1 rfl (OpTo.callT Try.func13 hp1 (fun w' hm => Forward_calls st hnn fs fa fm hsb [o0, o1, o2, o3, o4, o5, o6, o7] rfl w' (hasFst hp1 hm).1 (hasFst hp1 hm).2)) ?_)
    rintro ⟨st1, hrs1⟩
    dsimp only at hrs1 ⊢
    have hp2 : (st1.L ++ ((b5, .cells (deC d n k (fwdC fs fa [o0, o1, o2, o3, o4, o5, o6, o7] fm)).toArray 56 (0, 0)) :: sm.L)).Perm (sm.L ++ ((b5, .cells (deC d n k (fwdC fs fa [o0, o1, o2, o3, o4, o5, o6, o7] fm)).toArray 56 (0, 0)) :: st1.L)) := (perm_of fun f => by (simp only [List.map_append, List.map_cons, List.map_nil, List.sum_append, List.sum_cons, List.sum_nil] <;> omega))
    refine DR.c 7 (DOp.op1 rfl (OpTo.callT Try.func20 hp2 (fun w' hm => ref_Forward_calls sm hnm fs fa fm hsb [o0, o1, o2, o3, o4, o5, o6, o7] rfl w' (hasFst hp2 hm).1 (hasFst hp2 hm).2)) ?_)
    rintro ⟨sm1, hrs2⟩
    dsimp only at hrs2 ⊢
    rw [← heq] at hrs2 ⊢
    refine dt 8 ?_
    refine dt 9 ?_
    refine DR.done (by kernel_rfl) ?_
    refine z_ ?_
    exact RQ.ret1 rfl (Res.tmp rfl) fun w' hm => do_of ⟨[], [], st1, sm1, hrs1.trans hrs2.symm, by rw [hrs1]; exact RI_fwd hinv _ _⟩ hm (Lr := [(b5, .cells (deC d n k (fwdC fs fa [o0, o1, o2, o3, o4, o5, o6, o7] fm)).toArray 56 (0, 0))]) (by unfold DoS.L; exact (perm_of fun f => by (simp only [List.map_append, List.map_cons, List.map_nil, List.sum_append, List.sum_cons, List.sum_nil] <;> omega)))

/-- The copies. -/
structure Pc (q2 : Hp) where
  tb : Nat
  nb : Nat
  q3 : Hp
  x : Hp
  t : PSt tb q3
  n : RSt nb (x ++ q2)
  eq : t.rs = n.rs
  inv : RI t.rs
def Pc.L {q2 : Hp} (p : Pc q2) : Hp := p.t.L ++ (p.n.L ++ (p.q3 ++ p.x))

set_option maxRecDepth 10000 in set_option maxHeartbeats 4000000 in
theorem RegistryCopies_calls (la lb : List DeD) (hla : la.length ≤ 9223372036854775807) (hlb : lb.length ≤ 9223372036854775807) (va vb : Value) (w : World) (hsa : SrcW w 14 va la.length (rws DeD.c la)) (hsB : SrcW w 14 vb lb.length (rws DeD.c lb)) :
    Gives Try.prog 5 [va, vb] (.bool true) w := by
  refine enter Try.func5 rfl (Mem.nil w []) rfl ?_
  obtain ⟨aa, ca, rfl, hca⟩ := hsa.shape
  obtain ⟨ab, cb, rfl, hcb⟩ := hsB.shape
  refine z_ ?_
  refine Run.op1 (OpTo.cv Try.func9 (fun w' _ => rg_awake_calls w')) (fun _ => ?_)
  by_cases h20 : 20 < la.length
  · refine z_ ?_
    exact RQ.ret1 rfl (Res.tmp rfl) fun w' hm => ⟨rfl, hm.fr⟩
  by_cases h21 : 20 < lb.length
  · refine z_ ?_
    exact RQ.ret1 rfl (Res.tmp rfl) fun w' hm => ⟨rfl, hm.fr⟩
  refine z_ ?_
  refine Run.op1 (OpTo.callNew Try.func10 rfl rfl rfl rfl rfl rfl (fun w' _ => RNew_calls w')) ?_
  intro b
  refine z_ ?_
  refine Run.a (vbs #[.slice none 0 0]) ?_
  refine Run.nw nbx ?_
  intro mb
  refine z_ ?_
  obtain ⟨p0, hp0⟩ : ∃ p : Pl, p = ⟨b, mb, [], [], stNil _ _ b [], stNil _ _ mb [], rfl, fun r hr => by cases hr⟩ := ⟨_, rfl⟩
  have hl0 : [(mb, Obj.cells #[Value.slice none 0 0] 54 (0, 0)), (b, Obj.cells #[Value.slice none 0 0] 76 (0, 0))].Perm p0.L := by
    rw [hp0]; unfold Pl.L StO.L stNil; exact List.Perm.swap _ _ _
  refine RC.perm hl0 ?_
  refine RC.up la.length (D := Pl) (fun _ _ => True) (fun i p => [(8, .int .i64 i), (7, .func (.func 18) #[] #[]), (5, .pointer (some ⟨p.sb, 0, none⟩)), (6, .pointer (some ⟨p.mb, 0, none⟩)), (0, .slice aa la.length ca), (1, .slice ab lb.length cb)])
    (fun _ p => p.L) 0 p0 (Nat.zero_le _) trivial (by rw [hp0]; exact ⟨rfl, rfl, rfl, rfl, rfl, rfl, trivial⟩) (List.Sublist.refl _) ?_
  clear hl0 hp0 p0
  rintro i ⟨sb, mb, q1, q2, st, sm, heq, hinv⟩ hi -
  unfold Pl.L
  dsimp only
  refine z_ ?_
  (repeat refine RC.seq ?_); refine RC.wh rfl (fun h => RQ.next ?_) (fun h => ?_)
  · have hi' : i < la.length := by have := of_decide_eq_true h; omega
    clear h
    obtain ⟨e, hx⟩ : ∃ e, la[i]? = some e := ⟨_, List.getElem?_eq_getElem hi'⟩
    obtain ⟨ad, c', hv', hc', hcl, hr⟩ := hsa.pos (by omega)
    cases hv'
    have hload : ∀ j u, e.c[j]? = some u → w.cell? ((ad.add (i * 14)).add j) = some u := fun j u hj => by
      rw [add_add]; exact hr _ u (rws_at DeD.len hx j u hj)
    have hel := e.len
    obtain ⟨d, n, k, ⟨fs, fa, fo, fm, ho8, hsb, hmb⟩, hn, hk⟩ := e
    obtain ⟨o0, o1, o2, o3, o4, o5, o6, o7, rfl⟩ := len8 ho8
    change ∀ j u, (deC d n k (fwdC fs fa [o0, o1, o2, o3, o4, o5, o6, o7] fm))[j]? = some u → _ at hload
    change (deC d n k (fwdC fs fa [o0, o1, o2, o3, o4, o5, o6, o7] fm)).length = 14 at hel
    refine z_ ?_
    refine Run.a (vix i hi' (ad.add (i * 14))) ?_
    refine Run.a (vloA hload hel) ?_
    have hp1 : (st.L ++ (sm.L ++ (q1 ++ q2))).Perm ((st.L ++ sm.L) ++ (q1 ++ q2)) := (perm_of fun f => by (simp only [List.map_append, List.map_cons, List.map_nil, List.sum_append, List.sum_cons, List.sum_nil] <;> omega))
    refine Run.op1 (OpTo.callTF Try.func18 hp1 (fun w' hm => do_calls st sm heq hinv d n k fs fa fm hsb o0 o1 o2 o3 o4 o5 o6 o7 w' (hasFst hp1 hm).1 (hasFst hp1 hm).2)) ?_
    rintro ⟨np1, np2, st1, sm1, heq1, hinv1⟩
    unfold DoS.L
    dsimp only
    refine z_ ?_
    exact RQ.upQ (i + 1) ⟨sb, mb, np1 ++ q1, np2 ++ q2, st1, sm1, heq1, hinv1⟩ (Nat.lt_succ_self _) hi' trivial ⟨rfl, rfl, rfl, rfl, rfl, rfl, trivial⟩ (L1 := (st1.L ++ (sm1.L ++ ((np1 ++ q1) ++ (np2 ++ q2)))) ++ []) (perm_of fun f => by (simp only [List.map_append, List.map_cons, List.map_nil, List.sum_append, List.sum_cons, List.sum_nil] <;> omega)) (List.sublist_append_left _ _)
  have hi' : la.length = i := by have := of_decide_eq_false h; omega
  clear h
  subst hi'
  (repeat refine RQ.thenExit ?_); refine RQ.blockHere ?_
  refine z_ ?_
  have hq0 : (st.L ++ (sm.L ++ (q1 ++ q2))).Perm ((st.L ++ q1) ++ (sm.L ++ q2)) := (perm_of fun f => by (simp only [List.map_append, List.map_cons, List.map_nil, List.sum_append, List.sum_cons, List.sum_nil] <;> omega))
  have hz1 : (st.L ++ (sm.L ++ (q1 ++ q2))).Perm ([] ++ (st.L ++ (sm.L ++ (q1 ++ q2)))) := List.Perm.refl _
  refine Run.op1 (OpTo.callT Try.func21 hz1 (fun w' hm => Copy_calls st.h8 st.hk sb st.v w' (st.w (hasFst hq0 hm).1.left (hasFst hq0 hm).1.right))) ?_
  rintro ⟨⟨tb, q3, t⟩, hrt⟩
  dsimp only at hrt ⊢
  refine z_ ?_
  have hq1 : (t.L ++ q3 ++ (st.L ++ (sm.L ++ (q1 ++ q2)))).Perm ((sm.L ++ q2) ++ (t.L ++ (q3 ++ (st.L ++ q1)))) := (perm_of fun f => by (simp only [List.map_append, List.map_cons, List.map_nil, List.sum_append, List.sum_cons, List.sum_nil] <;> omega))
  have hz2 : (t.L ++ q3 ++ (st.L ++ (sm.L ++ (q1 ++ q2)))).Perm ([] ++ (t.L ++ q3 ++ (st.L ++ (sm.L ++ (q1 ++ q2))))) := List.Perm.refl _
  refine Run.op1 (OpTo.callT Try.func22 hz2 (fun w' hm => ref_Copy_calls sm w' (sm.w (hasFst hq1 hm).1.left (hasFst hq1 hm).1.right))) ?_
  rintro ⟨⟨nb, nn⟩, hrn⟩
  dsimp only at hrn ⊢
  refine z_ ?_
  obtain ⟨c0, hc0⟩ : ∃ p : Pc q2, p = ⟨tb, nb, q3, [], t, nn, by rw [hrn, ← heq]; exact hrt, by rw [hrt]; exact hinv⟩ := ⟨_, rfl⟩
  have hl0 : (nn.L ++ (t.L ++ q3 ++ (st.L ++ (sm.L ++ (q1 ++ q2))))).Perm (c0.L ++ (st.L ++ (sm.L ++ (q1 ++ q2)))) := by
    rw [hc0]; unfold Pc.L; exact (perm_of fun f => by (simp only [List.map_append, List.map_cons, List.map_nil, List.sum_append, List.sum_cons, List.sum_nil] <;> omega))
  refine RC.perm hl0 ?_
  refine RC.up lb.length (D := Pc q2) (fun _ _ => True) (fun i p => [(11, .int .i64 i), (7, .func (.func 18) #[] #[]), (5, .pointer (some ⟨sb, 0, none⟩)), (6, .pointer (some ⟨mb, 0, none⟩)), (9, .pointer (some ⟨p.tb, 0, none⟩)), (10, .pointer (some ⟨p.nb, 0, none⟩)), (1, .slice ab lb.length cb)])
    (fun _ p => p.L ++ (st.L ++ (sm.L ++ (q1 ++ q2)))) 0 c0 (Nat.zero_le _) trivial (by rw [hc0]; exact ⟨rfl, rfl, rfl, rfl, rfl, rfl, rfl, trivial⟩) (List.Sublist.refl _) ?_
  clear hl0 hc0 c0 hrt hrn hz1 hz2 hq1 t nn
  rintro i ⟨tb, nb, q3, x, t, nn, heqt, hinvt⟩ hi -
  unfold Pc.L
  dsimp only
  refine z_ ?_
  (repeat refine RC.seq ?_); refine RC.wh rfl (fun h => RQ.next ?_) (fun h => ?_)
  · have hi' : i < lb.length := by have := of_decide_eq_true h; omega
    clear h
    obtain ⟨e, hx⟩ : ∃ e, lb[i]? = some e := ⟨_, List.getElem?_eq_getElem hi'⟩
    obtain ⟨ad, c', hv', hc', hcl, hr⟩ := hsB.pos (by omega)
    cases hv'
    have hload : ∀ j u, e.c[j]? = some u → w.cell? ((ad.add (i * 14)).add j) = some u := fun j u hj => by
      rw [add_add]; exact hr _ u (rws_at DeD.len hx j u hj)
    have hel := e.len
    obtain ⟨d, n, k, ⟨fs, fa, fo, fm, ho8, hsb, hmb⟩, hn, hk⟩ := e
    obtain ⟨o0, o1, o2, o3, o4, o5, o6, o7, rfl⟩ := len8 ho8
    change ∀ j u, (deC d n k (fwdC fs fa [o0, o1, o2, o3, o4, o5, o6, o7] fm))[j]? = some u → _ at hload
    change (deC d n k (fwdC fs fa [o0, o1, o2, o3, o4, o5, o6, o7] fm)).length = 14 at hel
    refine z_ ?_
    refine Run.a (vix i hi' (ad.add (i * 14))) ?_
    refine Run.a (vloA hload hel) ?_
    have hp1 : (t.L ++ (nn.L ++ (q3 ++ x)) ++ (st.L ++ (sm.L ++ (q1 ++ q2)))).Perm ((t.L ++ nn.L) ++ (q3 ++ (x ++ (st.L ++ (sm.L ++ (q1 ++ q2)))))) := (perm_of fun f => by (simp only [List.map_append, List.map_cons, List.map_nil, List.sum_append, List.sum_cons, List.sum_nil] <;> omega))
    refine Run.op1 (OpTo.callTF Try.func18 hp1 (fun w' hm => do_calls t nn heqt hinvt d n k fs fa fm hsb o0 o1 o2 o3 o4 o5 o6 o7 w' (hasFst hp1 hm).1 (hasFst hp1 hm).2)) ?_
    rintro ⟨np1, np2, st1, sm1, heq1, hinv1⟩
    unfold DoS.L
    dsimp only
    refine z_ ?_
    exact RQ.upQ (i + 1) ⟨tb, nb, np1 ++ q3, np2 ++ x, st1, stMono sm1 (fun p hp => by rw [List.append_assoc]; exact hp), heq1, hinv1⟩ (Nat.lt_succ_self _) hi' trivial ⟨rfl, rfl, rfl, rfl, rfl, rfl, rfl, trivial⟩ (L1 := ((st1.L ++ (sm1.L ++ ((np1 ++ q3) ++ (np2 ++ x)))) ++ (st.L ++ (sm.L ++ (q1 ++ q2)))) ++ []) (perm_of fun f => by (simp only [List.map_append, List.map_cons, List.map_nil, List.sum_append, List.sum_cons, List.sum_nil] <;> omega)) (List.sublist_append_left _ _)
  have hi' : lb.length = i := by have := of_decide_eq_false h; omega
  clear h
  subst hi'
  (repeat refine RQ.thenExit ?_); refine RQ.blockHere ?_
  refine z_ ?_
  have hr1 : (t.L ++ (nn.L ++ (q3 ++ x)) ++ (st.L ++ (sm.L ++ (q1 ++ q2)))).Perm ((st.L ++ (sm.L ++ (q1 ++ q2))) ++ (t.L ++ (nn.L ++ (q3 ++ x)))) := (perm_of fun f => by (simp only [List.map_append, List.map_cons, List.map_nil, List.sum_append, List.sum_cons, List.sum_nil] <;> omega))
  have hr2 : (t.L ++ (nn.L ++ (q3 ++ x)) ++ (st.L ++ (sm.L ++ (q1 ++ q2)))).Perm ((t.L ++ (nn.L ++ (q3 ++ (x ++ q2)))) ++ (st.L ++ (sm.L ++ q1))) := (perm_of fun f => by (simp only [List.map_append, List.map_cons, List.map_nil, List.sum_append, List.sum_cons, List.sum_nil] <;> omega))
  refine Run.op1 (OpTo.cv Try.func23 (fun w' hm => have h := (hasFst hr1 hm).1; same_of st sm heq hinv h.left h.right.left h.right.right.left h.right.right.right)) (fun _ => ?_)
  refine z_ ?_
  refine Run.op1 (OpTo.cv Try.func23 (fun w' hm => have h := (hasFst hr2 hm).1; same_of t nn heqt hinvt h.left h.right.left h.right.right.left h.right.right.right)) (fun _ => ?_)
  refine z_ ?_
  exact RQ.ret1 rfl (Res.tmp rfl) fun w' hm => ⟨rfl, hm.fr⟩
end Go.Proofs.Ytnhnihkpacibgaa
