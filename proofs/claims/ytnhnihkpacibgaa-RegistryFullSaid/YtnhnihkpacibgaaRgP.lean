/- registry's law: RegistryPlays. -/
import Derived.Test.YtnhnihkpacibgaaFin9
set_option linter.unusedSimpArgs false
set_option linter.unusedVariables false
namespace Go.Sha
/-- What holds of all records of a play. -/
def RI (l : List Rc) : Prop := ∀ r ∈ l, 0 ≤ r.bal ∧ r.bal ≤ 1125899906842624 ∧ 0 ≤ r.fwd ∧ HL r.keys
theorem RI_create {l : List Rc} (h : RI l) {ok : Bool} {ln wd nd : Int} {ks : List (List Nat)} {z : Int} (hH : HL ks) : RI (createR l ok (rcNew ln wd nd ks z)).1 := by
  unfold createR
  cases ok with
  | false => exact h
  | true =>
    rw [cond_true]
    split
    · intro r hr
      rcases List.mem_append.1 hr with hr | hr
      · exact h r hr
      · rw [List.mem_singleton] at hr; subst hr
        exact ⟨Int.le_refl _, by show (0 : Int) ≤ _; decide, Int.le_refl _, hH⟩
    · exact h
theorem RI_set {l : List Rc} (h : RI l) {i : Nat} {r : Rc} (hr : 0 ≤ r.bal ∧ r.bal ≤ 1125899906842624 ∧ 0 ≤ r.fwd ∧ HL r.keys) : RI (l.set i r) := by
  intro x hx
  rcases List.mem_or_eq_of_mem_set hx with hx | rfl
  · exact h x hx
  · exact hr
theorem RI_fwd {l : List Rc} (h : RI l) (s a : Int) : RI (fwdR l s a).1 := by
  unfold fwdR
  split
  · split
    · rename_i r hr
      split
      · exact h
      · split
        · rename_i hf
          obtain ⟨h1, h2, h3, h4⟩ := h r (List.mem_of_getElem? hr)
          simp [fits] at hf
          refine RI_set h ⟨?_, ?_, ?_, h4⟩
          · show 0 ≤ r.bal + a; omega
          · show r.bal + a ≤ _; omega
          · show 0 ≤ r.fwd + a; omega
        · exact h
    · exact h
  · exact h
theorem RI_tot {l : List Rc} (h : RI l) (h8 : l.length ≤ 8) : totR l ≤ 9223372036854775807 := by
  have := (sum_bound (B := 1125899906842624) (by decide) (S := l.map Rc.bal) (fun x hx => by
    obtain ⟨r, hr, rfl⟩ := List.mem_map.1 hx
    exact ⟨(h r hr).1, (h r hr).2.1⟩)).2
  rw [List.length_map] at this
  unfold totR
  omega
def deC (d n k : Int) (f : List Go.Value) : List Go.Value := .int .i64 d :: .int .i64 n :: .int .i64 k :: f
theorem RI_nn {l : List Rc} (h : RI l) : ∀ r ∈ l, 0 ≤ r.bal ∧ 0 ≤ r.fwd := fun r hr => ⟨(h r hr).1, (h r hr).2.2.1⟩
end Go.Sha
namespace Go.Proofs.Ytnhnihkpacibgaa
attribute [local irreducible] Go.Vc.Run Go.Vc.RC Go.Vc.RQ Go.Vc.DR Go.Vc.DOp
open Go Go.Vc Go.Sha
/-- A registry and its model, which hold the same. -/
structure Pl where
  sb : Nat
  mb : Nat
  q1 : Hp
  q2 : Hp
  st : PSt sb q1
  sm : RSt mb q2
  eq : st.rs = sm.rs
  inv : RI st.rs
def Pl.L (p : Pl) : Hp := p.st.L ++ (p.sm.L ++ (p.q1 ++ p.q2))
theorem PlSame (p : Pl) {w0 w' : World} {S0 : List Nat} {L1 Lr : Hp} (hm : Mem w0 S0 L1 w') (hp : L1.Perm (p.L ++ Lr)) :
    Gives Try.prog 23 [.pointer (some ⟨p.sb, 0, none⟩), .pointer (some ⟨p.mb, 0, none⟩)] (.bool true) w' := by
  have hh : Has p.L w' := fun q hq => (hm.perm hp).has q (List.mem_append_left _ hq)
  unfold Pl.L at hh
  have hlen : p.st.rs.length ≤ 8 := by unfold StO.rs; rw [List.length_map]; exact p.st.h8
  exact Same_calls p.eq p.st.h8 (fun r hr => (p.inv r hr).1) (RI_tot p.inv hlen) p.st.hk (fun s hs => (p.inv s.r (List.mem_map_of_mem hs)).2.2.2) p.sb p.mb p.st.v p.sm.v w' (p.st.w hh.left hh.right.right.left) (p.sm.w hh.right.left hh.right.right.right)
theorem prm_one {a b c : Int} {kv : Value} (h : kv.oneCell' = true) : ∀ u ∈ prm a b c kv, u.oneCell' = true := by
  intro u hu
  simp only [prm, List.mem_cons, List.not_mem_nil, or_false] at hu
  rcases hu with rfl | rfl | rfl | rfl <;> first | rfl | exact h
theorem Made_any (k nd : Int) (w : World) : MakesD Try.prog 12 [.int .i64 k, .int .i64 nd] w (fun x : Nat × Int × Value => .agg (prm 4 2 x.2.1 x.2.2).toArray) (fun x => x.1 ≤ 8 ∧ x.2.2.oneCell' = true) (fun w x => SrcW w 8 x.2.2 (certs x.1).length (u8s (certs x.1).flatten)) :=
  (Made_calls k nd w).mono fun e' w' h => by
    obtain ⟨v, bl, rfl, hown, hfr, hbl, hnd⟩ := h
    rw [← certs_len (min k.toNat 8)] at hown
    exact ⟨(min k.toNat 8, nd, v), bl, rfl, hfr, fun p hp => (hbl p hp).1, fun p hp => (hbl p hp).2, hnd, ⟨Nat.min_le_right _ _, hown.one⟩, fun w'' hw => by rw [certs_len] at hown ⊢; exact hown.srcW hw⟩
theorem hasFst {w0 w' : World} {S0 : List Nat} {L A B : Hp} (hp : L.Perm (A ++ B)) (hm : Mem w0 S0 L w') : Has A w' ∧ (A.map (·.1)).Nodup :=
  ⟨fun q hq => (hm.perm hp).has q (List.mem_append_left _ hq), by have := (hm.perm hp).nd; rw [List.map_append] at this; exact (List.nodup_append.1 this).1⟩

set_option maxRecDepth 10000 in set_option maxHeartbeats 4000000 in
theorem RegistryPlays_calls (l : List DeD) (hll : l.length ≤ 9223372036854775807) (vl0 : Value) (w : World) (hs : SrcW w 14 vl0 l.length (rws DeD.c l)) :
    Gives Try.prog 8 [vl0] (.bool true) w := by
  refine enter Try.func8 rfl (Mem.nil w []) rfl ?_
  obtain ⟨la, lc, rfl, hlc⟩ := hs.shape
  refine z_ ?_
  refine Run.op1 (OpTo.cv Try.func9 (fun w' _ => rg_awake_calls w')) (fun _ => ?_)
  by_cases h40 : 40 < l.length
  · refine z_ ?_
    exact RQ.ret1 rfl (Res.tmp rfl) fun w' hm => ⟨rfl, hm.fr⟩
  refine z_ ?_
  refine Run.op1 (OpTo.callNew Try.func10 rfl rfl rfl rfl rfl rfl (fun w' _ => RNew_calls w')) ?_
  intro b
  refine z_ ?_
  refine Run.a (vbs #[.slice none 0 0]) ?_
  refine Run.nw nbx ?_
  intro mb
  refine z_ ?_
  obtain ⟨p0, hp0⟩ : ∃ p : Pl, p = ⟨b, mb, [], [], stNil _ _ b [], stNil _ _ mb [], rfl, fun r hr => by cases hr⟩ := ⟨_, rfl⟩
  have hl0 : [(mb, Obj.cells #[Value.slice none 0 0] 54 (0, 0)), (b, Obj.cells #[Value.slice none 0 0] 76 (0, 0))].Perm p0.L := by
    rw [hp0]; unfold Pl.L StO.L stNil; exact List.Perm.swap _ _ _
  refine RC.perm hl0 ?_
  refine RC.up l.length (D := Pl) (fun _ _ => True) (fun i p => [(5, .int .i64 i), (3, .pointer (some ⟨p.sb, 0, none⟩)), (4, .pointer (some ⟨p.mb, 0, none⟩)), (0, .slice la l.length lc)])
    (fun _ p => p.L) 0 p0 (Nat.zero_le _) trivial (by rw [hp0]; exact ⟨rfl, rfl, rfl, rfl, trivial⟩) (List.Sublist.refl _) ?_
  clear hl0 hp0 p0
  rintro i ⟨sb, mb, q1, q2, st, sm, heq, hinv⟩ hi -
  unfold Pl.L
  dsimp only
  refine z_ ?_
  (repeat refine RC.seq ?_); refine RC.wh rfl (fun h => RQ.next ?_) (fun h => ?_)
  · have hi' : i < l.length := by have := of_decide_eq_true h; omega
    clear h
    obtain ⟨e, hx⟩ : ∃ e, l[i]? = some e := ⟨_, List.getElem?_eq_getElem hi'⟩
    obtain ⟨ad, c', hv', hc', hcl, hr⟩ := hs.pos (by omega)
    cases hv'
    have hload : ∀ j u, e.c[j]? = some u → w.cell? ((ad.add (i * 14)).add j) = some u := fun j u hj => by
      rw [add_add]; exact hr _ u (rws_at DeD.len hx j u hj)
    have hel := e.len
    have he1 := e.one
    obtain ⟨d, n, k, ⟨fs, fa, fo, fm, ho8, hsb, hmb⟩, hn, hk⟩ := e
    obtain ⟨o0, o1, o2, o3, o4, o5, o6, o7, rfl⟩ := len8 ho8
    change ∀ j u, (deC d n k (fwdC fs fa [o0, o1, o2, o3, o4, o5, o6, o7] fm))[j]? = some u → _ at hload
    change (deC d n k (fwdC fs fa [o0, o1, o2, o3, o4, o5, o6, o7] fm)).length = 14 at hel
    change ∀ u ∈ deC d n k (fwdC fs fa [o0, o1, o2, o3, o4, o5, o6, o7] fm), _ at he1
    have hnn := RI_nn hinv
    have hnm : ∀ r ∈ sm.rs, 0 ≤ r.bal ∧ 0 ≤ r.fwd := by rw [← heq]; exact hnn
    refine z_ ?_
    refine Run.a (vix i hi' (ad.add (i * 14))) ?_
    refine Run.a (vloA hload hel) ?_
    refine Run.nw nal ?_
    intro b6
    refine Run.op1 (osa (deC d n k (fwdC fs fa [o0, o1, o2, o3, o4, o5, o6, o7] fm)).toArray he1 (hs := hel)) (fun _ => ?_)
    by_cases hd7 : ¬ (0 ≤ d ∧ d ≤ 6)
    · refine z_ ?_
      obtain ⟨pl, hpl⟩ : ∃ pl : Pl, pl = ⟨sb, mb, q1, q2, st, sm, heq, hinv⟩ := ⟨_, rfl⟩
      refine Run.op1 (OpTo.cv Try.func23 (fun w' hm => by have := PlSame pl (Lr := [(b6, .cells (deC d n k (fwdC fs fa [o0, o1, o2, o3, o4, o5, o6, o7] fm)).toArray 56 (0, 0))]) hm (by rw [hpl]; unfold Pl.L; exact (perm_of fun f => by (simp only [List.map_append, List.map_cons, List.map_nil, List.sum_append, List.sum_cons, List.sum_nil] <;> omega))); rw [hpl] at this; exact this)) (fun _ => ?_)
      refine z_ ?_
      refine RQ.upQ (i + 1) pl (Nat.lt_succ_self _) hi' trivial (by rw [hpl]; exact ⟨rfl, rfl, rfl, rfl, trivial⟩) (L1 := pl.L ++ ([(b6, .cells (deC d n k (fwdC fs fa [o0, o1, o2, o3, o4, o5, o6, o7] fm)).toArray 56 (0, 0))])) (by rw [hpl]; unfold Pl.L; exact (perm_of fun f => by (simp only [List.map_append, List.map_cons, List.map_nil, List.sum_append, List.sum_cons, List.sum_nil] <;> omega))) (List.sublist_append_left _ _)
    by_cases hd0 : d = 0
    · have hd01 := hd0
      refine z_ ?_
      refine Run.op1 (OpTo.callD Try.func12 (fun w' _ => Made_any _ _ w')) ?_
      rintro ⟨⟨⟨m7, nd, kv⟩, kb⟩, ⟨hm8, hko⟩, hksrc⟩
      dsimp only at hm8 hko hksrc ⊢
      refine Run.nw nal ?_
      intro b7
      refine Run.op1 (osa (prm 4 2 nd kv).toArray (prm_one hko)) (fun _ => ?_)
      refine z_ ?_
      have hp1 : ((b7, .cells (prm 4 2 nd kv).toArray 31 (0, 0)) :: (kb ++ ((b6, .cells (deC d n k (fwdC fs fa [o0, o1, o2, o3, o4, o5, o6, o7] fm)).toArray 56 (0, 0)) :: (st.L ++ (sm.L ++ (q1 ++ q2)))))).Perm ((st.L ++ kb) ++ ((b7, .cells (prm 4 2 nd kv).toArray 31 (0, 0)) :: (b6, .cells (deC d n k (fwdC fs fa [o0, o1, o2, o3, o4, o5, o6, o7] fm)).toArray 56 (0, 0)) :: (sm.L ++ (q1 ++ q2)))) := (perm_of fun f => by (simp only [List.map_append, List.map_cons, List.map_nil, List.sum_append, List.sum_cons, List.sum_nil] <;> omega))
      refine Run.op1 (OpTo.callT Try.func11 hp1 (fun w' hm => Create_calls st (certs_HL m7) (by rw [certs_len]; omega) hko hksrc _ w' (hasFst hp1 hm).1 (hasFst hp1 hm).2)) ?_
      rintro ⟨⟨np1, st1⟩, hrs1⟩
      dsimp only at hrs1 ⊢
      refine z_ ?_
      have hp2 : (st1.L ++ (np1 ++ kb) ++ ((b7, .cells (prm 4 2 nd kv).toArray 31 (0, 0)) :: (b6, .cells (deC d n k (fwdC fs fa [o0, o1, o2, o3, o4, o5, o6, o7] fm)).toArray 56 (0, 0)) :: (sm.L ++ (q1 ++ q2)))).Perm ((sm.L ++ kb) ++ ((b7, .cells (prm 4 2 nd kv).toArray 31 (0, 0)) :: (b6, .cells (deC d n k (fwdC fs fa [o0, o1, o2, o3, o4, o5, o6, o7] fm)).toArray 56 (0, 0)) :: (st1.L ++ (np1 ++ (q1 ++ q2))))) := (perm_of fun f => by (simp only [List.map_append, List.map_cons, List.map_nil, List.sum_append, List.sum_cons, List.sum_nil] <;> omega))
      refine Run.op1 (OpTo.callT Try.func19 hp2 (fun w' hm => ref_Create_calls sm (certs_HL m7) (by rw [certs_len]; omega) hko hksrc _ w' (hasFst hp2 hm).1 (hasFst hp2 hm).2)) ?_
      rintro ⟨⟨np2, sm1⟩, hrs2⟩
      dsimp only at hrs2 ⊢
      rw [← heq] at hrs2 ⊢
      refine z_ ?_
      obtain ⟨pl, hpl⟩ : ∃ pl : Pl, pl = ⟨sb, mb, np1 ++ q1, np2 ++ q2, st1, sm1, hrs1.trans hrs2.symm, by rw [hrs1]; exact RI_create hinv (certs_HL m7)⟩ := ⟨_, rfl⟩
      refine Run.op1 (OpTo.cv Try.func23 (fun w' hm => by have := PlSame pl (Lr := (b7, .cells (prm 4 2 nd kv).toArray 31 (0, 0)) :: (b6, .cells (deC d n k (fwdC fs fa [o0, o1, o2, o3, o4, o5, o6, o7] fm)).toArray 56 (0, 0)) :: kb) hm (by rw [hpl]; unfold Pl.L; exact (perm_of fun f => by (simp only [List.map_append, List.map_cons, List.map_nil, List.sum_append, List.sum_cons, List.sum_nil] <;> omega))); rw [hpl] at this; exact this)) (fun _ => ?_)
      refine z_ ?_
      refine RQ.upQ (i + 1) pl (Nat.lt_succ_self _) hi' trivial (by rw [hpl]; exact ⟨rfl, rfl, rfl, rfl, trivial⟩) (L1 := pl.L ++ ((b7, .cells (prm 4 2 nd kv).toArray 31 (0, 0)) :: (b6, .cells (deC d n k (fwdC fs fa [o0, o1, o2, o3, o4, o5, o6, o7] fm)).toArray 56 (0, 0)) :: kb)) (by rw [hpl]; unfold Pl.L; exact (perm_of fun f => by (simp only [List.map_append, List.map_cons, List.map_nil, List.sum_append, List.sum_cons, List.sum_nil] <;> omega))) (List.sublist_append_left _ _)
    by_cases hd1 : d = 1
    · have hd11 := hd1
      refine z_ ?_
      refine Run.op1 (OpTo.callD Try.func12 (fun w' _ => Made_any _ _ w')) ?_
      rintro ⟨⟨⟨m7, nd, kv⟩, kb⟩, ⟨hm8, hko⟩, hksrc⟩
      dsimp only at hm8 hko hksrc ⊢
      refine Run.nw nal ?_
      intro b7
      refine Run.op1 (osa (prm 4 2 nd kv).toArray (prm_one hko)) (fun _ => ?_)
      refine z_ ?_
      have hp1 : ((b7, .cells (prm 4 2 nd kv).toArray 31 (0, 0)) :: (kb ++ ((b6, .cells (deC d n k (fwdC fs fa [o0, o1, o2, o3, o4, o5, o6, o7] fm)).toArray 56 (0, 0)) :: (st.L ++ (sm.L ++ (q1 ++ q2)))))).Perm ((st.L ++ kb) ++ ((b7, .cells (prm 4 2 nd kv).toArray 31 (0, 0)) :: (b6, .cells (deC d n k (fwdC fs fa [o0, o1, o2, o3, o4, o5, o6, o7] fm)).toArray 56 (0, 0)) :: (sm.L ++ (q1 ++ q2)))) := (perm_of fun f => by (simp only [List.map_append, List.map_cons, List.map_nil, List.sum_append, List.sum_cons, List.sum_nil] <;> omega))
      refine Run.op1 (OpTo.callT Try.func11 hp1 (fun w' hm => Create_calls st (certs_HL m7) (by rw [certs_len]; omega) hko hksrc _ w' (hasFst hp1 hm).1 (hasFst hp1 hm).2)) ?_
      rintro ⟨⟨np1, st1⟩, hrs1⟩
      dsimp only at hrs1 ⊢
      refine z_ ?_
      have hp2 : (st1.L ++ (np1 ++ kb) ++ ((b7, .cells (prm 4 2 nd kv).toArray 31 (0, 0)) :: (b6, .cells (deC d n k (fwdC fs fa [o0, o1, o2, o3, o4, o5, o6, o7] fm)).toArray 56 (0, 0)) :: (sm.L ++ (q1 ++ q2)))).Perm ((sm.L ++ kb) ++ ((b7, .cells (prm 4 2 nd kv).toArray 31 (0, 0)) :: (b6, .cells (deC d n k (fwdC fs fa [o0, o1, o2, o3, o4, o5, o6, o7] fm)).toArray 56 (0, 0)) :: (st1.L ++ (np1 ++ (q1 ++ q2))))) := (perm_of fun f => by (simp only [List.map_append, List.map_cons, List.map_nil, List.sum_append, List.sum_cons, List.sum_nil] <;> omega))
      refine Run.op1 (OpTo.callT Try.func19 hp2 (fun w' hm => ref_Create_calls sm (certs_HL m7) (by rw [certs_len]; omega) hko hksrc _ w' (hasFst hp2 hm).1 (hasFst hp2 hm).2)) ?_
      rintro ⟨⟨np2, sm1⟩, hrs2⟩
      dsimp only at hrs2 ⊢
      rw [← heq] at hrs2 ⊢
      refine z_ ?_
      obtain ⟨pl, hpl⟩ : ∃ pl : Pl, pl = ⟨sb, mb, np1 ++ q1, np2 ++ q2, st1, sm1, hrs1.trans hrs2.symm, by rw [hrs1]; exact RI_create hinv (certs_HL m7)⟩ := ⟨_, rfl⟩
      refine Run.op1 (OpTo.cv Try.func23 (fun w' hm => by have := PlSame pl (Lr := (b7, .cells (prm 4 2 nd kv).toArray 31 (0, 0)) :: (b6, .cells (deC d n k (fwdC fs fa [o0, o1, o2, o3, o4, o5, o6, o7] fm)).toArray 56 (0, 0)) :: kb) hm (by rw [hpl]; unfold Pl.L; exact (perm_of fun f => by (simp only [List.map_append, List.map_cons, List.map_nil, List.sum_append, List.sum_cons, List.sum_nil] <;> omega))); rw [hpl] at this; exact this)) (fun _ => ?_)
      refine z_ ?_
      refine RQ.upQ (i + 1) pl (Nat.lt_succ_self _) hi' trivial (by rw [hpl]; exact ⟨rfl, rfl, rfl, rfl, trivial⟩) (L1 := pl.L ++ ((b7, .cells (prm 4 2 nd kv).toArray 31 (0, 0)) :: (b6, .cells (deC d n k (fwdC fs fa [o0, o1, o2, o3, o4, o5, o6, o7] fm)).toArray 56 (0, 0)) :: kb)) (by rw [hpl]; unfold Pl.L; exact (perm_of fun f => by (simp only [List.map_append, List.map_cons, List.map_nil, List.sum_append, List.sum_cons, List.sum_nil] <;> omega))) (List.sublist_append_left _ _)
    by_cases hd4 : 2 ≤ d ∧ d ≤ 4
    · have hsw : d = 2 ∨ d = 3 ∨ d = 4 := by omega
      rcases hsw with hsw | hsw | hsw
      all_goals
        refine z_ ?_
        refine RC.draw [(b6, .cells (deC d n k (fwdC fs fa [o0, o1, o2, o3, o4, o5, o6, o7] fm)).toArray 56 (0, 0))] mixed (N := 9) rfl ?_
        refine dt 0 ?_
        refine dt 1 ?_
        refine DR.t 2 rfl (vl (.agg (fwdC fs fa [o0, o1, o2, o3, o4, o5, o6, o7] fm).toArray) (hv := by kernel_rfl)) ?_
        refine dt 4 ?_
        refine dt 5 ?_
        refine DR.t 6 rfl (vl (.agg (fwdC fs fa [o0, o1, o2, o3, o4, o5, o6, o7] fm).toArray) (hv := by kernel_rfl)) ?_
        have hp1 : ((b6, .cells (deC d n k (fwdC fs fa [o0, o1, o2, o3, o4, o5, o6, o7] fm)).toArray 56 (0, 0)) :: (st.L ++ (sm.L ++ (q1 ++ q2)))).Perm (st.L ++ ((b6, .cells (deC d n k (fwdC fs fa [o0, o1, o2, o3, o4, o5, o6, o7] fm)).toArray 56 (0, 0)) :: (sm.L ++ (q1 ++ q2)))) := (perm_of fun f => by (simp only [List.map_append, List.map_cons, List.map_nil, List.sum_append, List.sum_cons, List.sum_nil] <;> omega))
        refine DR.c 3 (DOp.op1 rfl (OpTo.callT Try.func13 hp1 (fun w' hm => Forward_calls st hnn fs fa fm hsb [o0, o1, o2, o3, o4, o5, o6, o7] rfl w' (hasFst hp1 hm).1 (hasFst hp1 hm).2)) ?_)
        rintro ⟨st1, hrs1⟩
        dsimp only at hrs1 ⊢
        have hp2 : (st1.L ++ ((b6, .cells (deC d n k (fwdC fs fa [o0, o1, o2, o3, o4, o5, o6, o7] fm)).toArray 56 (0, 0)) :: (sm.L ++ (q1 ++ q2)))).Perm (sm.L ++ ((b6, .cells (deC d n k (fwdC fs fa [o0, o1, o2, o3, o4, o5, o6, o7] fm)).toArray 56 (0, 0)) :: (st1.L ++ (q1 ++ q2)))) := (perm_of fun f => by (simp only [List.map_append, List.map_cons, List.map_nil, List.sum_append, List.sum_cons, List.sum_nil] <;> omega))
        refine DR.c 7 (DOp.op1 rfl (OpTo.callT Try.func20 hp2 (fun w' hm => ref_Forward_calls sm hnm fs fa fm hsb [o0, o1, o2, o3, o4, o5, o6, o7] rfl w' (hasFst hp2 hm).1 (hasFst hp2 hm).2)) ?_)
        rintro ⟨sm1, hrs2⟩
        dsimp only at hrs2 ⊢
        rw [← heq] at hrs2 ⊢
        refine dt 8 ?_
        refine DR.done (by kernel_rfl) ?_
        refine z_ ?_
        obtain ⟨pl, hpl⟩ : ∃ pl : Pl, pl = ⟨sb, mb, q1, q2, st1, sm1, hrs1.trans hrs2.symm, by rw [hrs1]; exact RI_fwd hinv _ _⟩ := ⟨_, rfl⟩
        refine Run.op1 (OpTo.cv Try.func23 (fun w' hm => by have := PlSame pl (Lr := [(b6, .cells (deC d n k (fwdC fs fa [o0, o1, o2, o3, o4, o5, o6, o7] fm)).toArray 56 (0, 0))]) hm (by rw [hpl]; unfold Pl.L; exact (perm_of fun f => by (simp only [List.map_append, List.map_cons, List.map_nil, List.sum_append, List.sum_cons, List.sum_nil] <;> omega))); rw [hpl] at this; exact this)) (fun _ => ?_)
        refine z_ ?_
        refine RQ.upQ (i + 1) pl (Nat.lt_succ_self _) hi' trivial (by rw [hpl]; exact ⟨rfl, rfl, rfl, rfl, trivial⟩) (L1 := pl.L ++ ([(b6, .cells (deC d n k (fwdC fs fa [o0, o1, o2, o3, o4, o5, o6, o7] fm)).toArray 56 (0, 0))])) (by rw [hpl]; unfold Pl.L; exact (perm_of fun f => by (simp only [List.map_append, List.map_cons, List.map_nil, List.sum_append, List.sum_cons, List.sum_nil] <;> omega))) (List.sublist_append_left _ _)
    by_cases hd6 : d = 6
    · have hd61 := hd6
      refine z_ ?_
      have hp0 : ((b6, .cells (deC d n k (fwdC fs fa [o0, o1, o2, o3, o4, o5, o6, o7] fm)).toArray 56 (0, 0)) :: (st.L ++ (sm.L ++ (q1 ++ q2)))).Perm ((st.L ++ q1) ++ ((b6, .cells (deC d n k (fwdC fs fa [o0, o1, o2, o3, o4, o5, o6, o7] fm)).toArray 56 (0, 0)) :: (sm.L ++ q2))) := (perm_of fun f => by (simp only [List.map_append, List.map_cons, List.map_nil, List.sum_append, List.sum_cons, List.sum_nil] <;> omega))
      refine Run.op1 (OpTo.callT Try.func21 (List.Perm.refl _) (fun w' hm => Copy_calls st.h8 st.hk sb st.v w' (st.w (hasFst hp0 hm).1.left (hasFst hp0 hm).1.right))) ?_
      rintro ⟨⟨sb', p', st'⟩, hrs'⟩
      dsimp only at hrs' ⊢
      refine z_ ?_
      refine Run.a (vba (u8s [1, 0, 0, 0, 0, 0, 0, 0]).toArray) ?_
      refine Run.a (vbs (fwdC 0 1 [1, 0, 0, 0, 0, 0, 0, 0] 1).toArray) ?_
      have hp1 : (st'.L ++ p' ++ ((b6, .cells (deC d n k (fwdC fs fa [o0, o1, o2, o3, o4, o5, o6, o7] fm)).toArray 56 (0, 0)) :: (st.L ++ (sm.L ++ (q1 ++ q2))))).Perm (st.L ++ ((b6, .cells (deC d n k (fwdC fs fa [o0, o1, o2, o3, o4, o5, o6, o7] fm)).toArray 56 (0, 0)) :: (st'.L ++ (p' ++ (sm.L ++ (q1 ++ q2)))))) := (perm_of fun f => by (simp only [List.map_append, List.map_cons, List.map_nil, List.sum_append, List.sum_cons, List.sum_nil] <;> omega))
      refine Run.op1 (OpTo.callT Try.func13 hp1 (fun w' hm => Forward_calls st hnn 0 1 1 (by decide) [1, 0, 0, 0, 0, 0, 0, 0] rfl w' (hasFst hp1 hm).1 (hasFst hp1 hm).2)) ?_
      rintro ⟨st1, hrs1⟩
      dsimp only at hrs1 ⊢
      refine z_ ?_
      obtain ⟨pl, hpl⟩ : ∃ pl : Pl, pl = ⟨sb', mb, p', q2, st', sm, hrs'.trans heq, by rw [hrs']; exact hinv⟩ := ⟨_, rfl⟩
      refine Run.op1 (OpTo.cv Try.func23 (fun w' hm => by have := PlSame pl (Lr := (b6, .cells (deC d n k (fwdC fs fa [o0, o1, o2, o3, o4, o5, o6, o7] fm)).toArray 56 (0, 0)) :: (st1.L ++ q1)) hm (by rw [hpl]; unfold Pl.L; exact (perm_of fun f => by (simp only [List.map_append, List.map_cons, List.map_nil, List.sum_append, List.sum_cons, List.sum_nil] <;> omega))); rw [hpl] at this; exact this)) (fun _ => ?_)
      refine z_ ?_
      refine RQ.upQ (i + 1) pl (Nat.lt_succ_self _) hi' trivial (by rw [hpl]; exact ⟨rfl, rfl, rfl, rfl, trivial⟩) (L1 := pl.L ++ ((b6, .cells (deC d n k (fwdC fs fa [o0, o1, o2, o3, o4, o5, o6, o7] fm)).toArray 56 (0, 0)) :: (st1.L ++ q1))) (by rw [hpl]; unfold Pl.L; exact (perm_of fun f => by (simp only [List.map_append, List.map_cons, List.map_nil, List.sum_append, List.sum_cons, List.sum_nil] <;> omega))) (List.sublist_append_left _ _)
    have hd5 : d = 5 := by omega
    have hp0 : ((b6, .cells (deC d n k (fwdC fs fa [o0, o1, o2, o3, o4, o5, o6, o7] fm)).toArray 56 (0, 0)) :: (st.L ++ (sm.L ++ (q1 ++ q2)))).Perm ((st.L ++ q1) ++ ((b6, .cells (deC d n k (fwdC fs fa [o0, o1, o2, o3, o4, o5, o6, o7] fm)).toArray 56 (0, 0)) :: (sm.L ++ q2))) := (perm_of fun f => by (simp only [List.map_append, List.map_cons, List.map_nil, List.sum_append, List.sum_cons, List.sum_nil] <;> omega))
    have hml : sm.l.length = st.l.length := by have := congrArg List.length heq; unfold StO.rs at this; simpa using this.symm
    refine z_ ?_
    by_cases hin : ¬ (0 ≤ n ∧ n < st.l.length)
    · obtain ⟨ma, mc, hmv, hmc⟩ := sm.own.shape
      have hmcell : sm.L = (mb, .cells #[.slice ma sm.l.length mc] 54 (0, 0)) :: sm.bb := by unfold StO.L; rw [hmv]
      refine Run.op1 (OpTo.cv Try.func14 (fun w' hm => Side_bad st.h8 sb st.v w' (st.w (hasFst hp0 hm).1.left (hasFst hp0 hm).1.right) n hin)) (fun _ => ?_)
      refine z_ ?_
      refine Run.nw nal ?_
      intro b12
      refine Run.op1 (osa zeroC.toArray (Rc.one ⟨0, 0, 0, 0, 0, 0, false, 0, [], []⟩ rfl rfl)) (fun _ => ?_)
      rw [hmcell]
      refine z_ ?_
      by_cases n0 : 0 ≤ n
      · (repeat refine RC.seq ?_); refine RC.drawS mixed (N := 15) rfl ?_
        refine dt 0 ?_
        refine dt 1 ?_
        refine dt 2 ?_
        refine dt 3 ?_
        refine dt 4 ?_
        refine DR.sT 102 ?_
        refine dt 5 ?_
        refine dt 6 ?_
        refine dt 7 ?_
        refine dt 8 ?_
        refine dt 9 ?_
        refine dt 10 ?_
        refine dt 11 ?_
        refine dt 12 ?_
        refine dt 13 ?_
        refine DR.t 14 rfl (Val.eq (Val.neBool (a := false) (b := false) tabOk rfl rfl rfl rfl (show _ = some (Value.bool false) from congrArg (fun q => some (Value.bool q)) (decide_eq_false (by omega)))) (show _ = Value.bool false from rfl)) ?_
        refine DR.done (by kernel_rfl) ?_
        refine z_ ?_
        obtain ⟨pl, hpl⟩ : ∃ pl : Pl, pl = ⟨sb, mb, q1, q2, st, sm, heq, hinv⟩ := ⟨_, rfl⟩
        refine Run.op1 (OpTo.cv Try.func23 (fun w' hm => by have := PlSame pl (Lr := [(b12, .cells zeroC.toArray 44 (0, 0)), (b6, .cells (deC d n k (fwdC fs fa [o0, o1, o2, o3, o4, o5, o6, o7] fm)).toArray 56 (0, 0))]) hm (by rw [hpl]; unfold Pl.L; dsimp only; rw [hmcell]; exact (perm_of fun f => by (simp only [List.map_append, List.map_cons, List.map_nil, List.sum_append, List.sum_cons, List.sum_nil] <;> omega))); rw [hpl] at this; exact this)) (fun _ => ?_)
        refine z_ ?_
        refine RQ.upQ (i + 1) pl (Nat.lt_succ_self _) hi' trivial (by rw [hpl]; exact ⟨rfl, rfl, rfl, rfl, trivial⟩) (L1 := pl.L ++ ([(b12, .cells zeroC.toArray 44 (0, 0)), (b6, .cells (deC d n k (fwdC fs fa [o0, o1, o2, o3, o4, o5, o6, o7] fm)).toArray 56 (0, 0))])) (by rw [hpl]; unfold Pl.L; dsimp only; rw [hmcell]; exact (perm_of fun f => by (simp only [List.map_append, List.map_cons, List.map_nil, List.sum_append, List.sum_cons, List.sum_nil] <;> omega))) (List.sublist_append_left _ _)
      · (repeat refine RC.seq ?_); refine RC.drawS mixed (N := 15) rfl ?_
        refine dt 0 ?_
        refine dt 1 ?_
        refine dt 2 ?_
        refine dt 3 ?_
        refine dt 4 ?_
        refine DR.sF 102 ?_
        refine DR.p 5 rfl ?_
        refine DR.p 6 rfl ?_
        refine DR.p 7 rfl ?_
        refine DR.p 8 rfl ?_
        refine DR.p 9 rfl ?_
        refine DR.p 10 rfl ?_
        refine DR.p 11 rfl ?_
        refine DR.p 12 rfl ?_
        refine dt 13 ?_
        refine DR.t 14 rfl (Val.eq (Val.neBool (a := false) (b := false) tabOk rfl rfl rfl rfl rfl) (show _ = Value.bool false from rfl)) ?_
        refine DR.done (by kernel_rfl) ?_
        refine z_ ?_
        obtain ⟨pl, hpl⟩ : ∃ pl : Pl, pl = ⟨sb, mb, q1, q2, st, sm, heq, hinv⟩ := ⟨_, rfl⟩
        refine Run.op1 (OpTo.cv Try.func23 (fun w' hm => by have := PlSame pl (Lr := [(b12, .cells zeroC.toArray 44 (0, 0)), (b6, .cells (deC d n k (fwdC fs fa [o0, o1, o2, o3, o4, o5, o6, o7] fm)).toArray 56 (0, 0))]) hm (by rw [hpl]; unfold Pl.L; dsimp only; rw [hmcell]; exact (perm_of fun f => by (simp only [List.map_append, List.map_cons, List.map_nil, List.sum_append, List.sum_cons, List.sum_nil] <;> omega))); rw [hpl] at this; exact this)) (fun _ => ?_)
        refine z_ ?_
        refine RQ.upQ (i + 1) pl (Nat.lt_succ_self _) hi' trivial (by rw [hpl]; exact ⟨rfl, rfl, rfl, rfl, trivial⟩) (L1 := pl.L ++ ([(b12, .cells zeroC.toArray 44 (0, 0)), (b6, .cells (deC d n k (fwdC fs fa [o0, o1, o2, o3, o4, o5, o6, o7] fm)).toArray 56 (0, 0))])) (by rw [hpl]; unfold Pl.L; dsimp only; rw [hmcell]; exact (perm_of fun f => by (simp only [List.map_append, List.map_cons, List.map_nil, List.sum_append, List.sum_cons, List.sum_nil] <;> omega))) (List.sublist_append_left _ _)
    obtain ⟨j, rfl⟩ := Int.eq_ofNat_of_zero_le (show 0 ≤ n by omega)
    have hji : j < st.l.length := by omega
    have hjm : j < sm.l.length := by omega
    obtain ⟨s, hsx⟩ : ∃ s, st.l[j]? = some s := ⟨_, List.getElem?_eq_getElem hji⟩
    obtain ⟨y, hyx⟩ : ∃ y, sm.l[j]? = some y := ⟨_, List.getElem?_eq_getElem (by omega)⟩
    have hsr : st.rs[j]? = some s.r := by unfold StO.rs; rw [List.getElem?_map, hsx]; rfl
    have hyr : y.r = s.r := by
      have h9 : sm.rs[j]? = some y.r := by unfold StO.rs; rw [List.getElem?_map, hyx]; rfl
      rw [← heq, hsr] at h9
      exact (Option.some.inj h9).symm
    have hks := st.hk s (List.mem_of_getElem? hsx)
    have his := hinv s.r (List.mem_of_getElem? hsr)
    obtain ⟨b2, cap, rest, hv2, hbb, h1, h2, h3, h4⟩ := sm.own.pos (by omega)
    have hmcell : sm.L = [(mb, .cells #[.slice (some ⟨b2, 0, none⟩) sm.l.length cap] 54 (0, 0)), (b2, .cells (rws SX.c sm.l ++ rest).toArray 65 (0, 0))] := by unfold StO.L; rw [hv2, hbb]
    refine Run.op1 (OpTo.callD Try.func14 (fun w' hm => Side_calls st.h8 sb st.v w' (st.w (hasFst hp0 hm).1.left (hasFst hp0 hm).1.right) hsx hks.1 hks.2)) ?_
    rintro ⟨⟨s2, bl⟩, hr2, hk2⟩
    dsimp only at hr2 hk2 ⊢
    have hl2 := s2.len
    have hone := s2.one
    obtain ⟨r2, kv2, uv2, ok1, ok2⟩ := s2
    dsimp only at hr2
    subst hr2
    obtain ⟨ry, kvy, uvy, oy1, oy2⟩ := y
    dsimp only at hyr
    subst hyr
    refine z_ ?_
    refine Run.nw nal ?_
    intro b12
    refine Run.op1 (osa (SX.c ⟨s.r, kv2, uv2, ok1, ok2⟩).toArray hone (hs := hl2)) (fun _ => ?_)
    rw [hmcell]
    refine z_ ?_
    (repeat refine RC.seq ?_); refine RC.drawS mixed (N := 15) rfl ?_
    refine dt 0 ?_
    refine dt 1 ?_
    refine dt 2 ?_
    refine dt 3 ?_
    refine dt 4 ?_
    refine DR.sT 102 ?_
    refine dt 5 ?_
    refine dt 6 ?_
    refine dt 7 ?_
    refine dt 8 ?_
    refine dt 9 ?_
    refine dt 10 ?_
    refine dt 11 ?_
    refine dt 12 ?_
    refine dt 13 ?_
    refine DR.t 14 rfl (Val.eq (Val.neBool (a := true) (b := true) tabOk rfl rfl rfl rfl (show _ = some (Value.bool true) from congrArg (fun q => some (Value.bool q)) (decide_eq_true (by omega)))) (show _ = Value.bool false from rfl)) ?_
    refine DR.done (by kernel_rfl) ?_
    refine z_ ?_
    refine Run.nw (nbsk (i64L [1, 4]).toArray) ?_
    intro b114
    refine z_ ?_
    refine Run.op1 (os1 (SX.c ⟨{ s.r with ce := true }, kv2, uv2, ok1, ok2⟩).toArray) (fun _ => ?_)
    refine z_ ?_
    refine Run.op1 (os1 (SX.c ⟨{ s.r with ce := true, at_ := 9 }, kv2, uv2, ok1, ok2⟩).toArray) (fun _ => ?_)
    refine z_ ?_
    refine Run.op1 (os1 (SX.c ⟨{ s.r with ce := true, at_ := 9, used := [1, 4] }, kv2, (.slice (some ⟨b114, 0, none⟩) 2 2), ok1, rfl⟩).toArray) (fun _ => ?_)
    refine z_ ?_
    have hpS : ((b12, .cells (SX.c ⟨{ s.r with ce := true, at_ := 9, used := [1, 4] }, kv2, (.slice (some ⟨b114, 0, none⟩) 2 2), ok1, rfl⟩).toArray 44 (0, 0)) :: (b114, Obj.cells (i64L [1, 4]).toArray 3 (0, 0)) :: (bl ++ ((b6, .cells (deC d j k (fwdC fs fa [o0, o1, o2, o3, o4, o5, o6, o7] fm)).toArray 56 (0, 0)) :: (st.L ++ ([(mb, .cells #[.slice (some ⟨b2, 0, none⟩) sm.l.length cap] 54 (0, 0)), (b2, .cells (rws SX.c sm.l ++ rest).toArray 65 (0, 0))] ++ (q1 ++ q2)))))).Perm ((st.L ++ (bl ++ [(b114, Obj.cells (i64L [1, 4]).toArray 3 (0, 0))])) ++ ((b12, .cells (SX.c ⟨{ s.r with ce := true, at_ := 9, used := [1, 4] }, kv2, (.slice (some ⟨b114, 0, none⟩) 2 2), ok1, rfl⟩).toArray 44 (0, 0)) :: (b6, .cells (deC d j k (fwdC fs fa [o0, o1, o2, o3, o4, o5, o6, o7] fm)).toArray 56 (0, 0)) :: ([(mb, .cells #[.slice (some ⟨b2, 0, none⟩) sm.l.length cap] 54 (0, 0)), (b2, .cells (rws SX.c sm.l ++ rest).toArray 65 (0, 0))] ++ (q1 ++ q2)))) := (perm_of fun f => by (simp only [List.map_append, List.map_cons, List.map_nil, List.sum_append, List.sum_cons, List.sum_nil] <;> omega))
    have hsrc : ∀ (b : Nat) w, Has [(b, Obj.cells (i64L [1, 4]).toArray 3 (0, 0))] w → SrcW w 1 (.slice (some ⟨b, 0, none⟩) 2 2) 2 (i64L [1, 4]) := fun b w hw => (Own.row (e := 3) (sz := 1) b 2 2 (i64L [1, 4]) [] rfl rfl (Nat.le_refl _) (by unfold maxLen; decide)).srcW (by rw [List.append_nil]; exact hw)
    refine Run.op1 (OpTo.callT Try.func17 hpS (fun w' hm => Set_calls st hsx ⟨{ s.r with ce := true, at_ := 9, used := [1, 4] }, kv2, (.slice (some ⟨b114, 0, none⟩) 2 2), ok1, rfl⟩ hks.1 (show (2 : Nat) ≤ 1000000 from by decide) (ap := bl ++ [(b114, Obj.cells (i64L [1, 4]).toArray 3 (0, 0))]) (fun w hw => ⟨(hk2 w hw.left).1, hsrc b114 w hw.right⟩) w' (hasFst hpS hm).1 (hasFst hpS hm).2)) ?_
    rintro ⟨⟨np, st1⟩, hrs1⟩
    dsimp only at hrs1 ⊢
    refine z_ ?_
    (repeat refine RC.seq ?_); refine RC.drawS mixed (N := 10) rfl ?_
    refine dt 0 ?_
    refine dt 1 ?_
    refine dt 2 ?_
    refine dt 3 ?_
    refine dt 4 ?_
    refine dt 5 ?_
    refine DR.t 6 rfl (vix j hjm ⟨b2, j * 42, none⟩) ?_
    refine DR.t 7 rfl (vl (.agg (SX.c ⟨s.r, kvy, uvy, oy1, oy2⟩).toArray) (hv := by exact rdAt_row SX.len hyx rfl rfl)) ?_
    refine DR.c 8 ?_
    refine DOp.op1 rfl (OpTo.new rfl rfl (nal)) ?_
    intro b14
    refine DR.c 9 (DOp.op1 rfl (osa (SX.c ⟨s.r, kvy, uvy, oy1, oy2⟩).toArray (SX.one _)) (fun _ => ?_))
    refine DR.done (by kernel_rfl) ?_
    refine z_ ?_
    refine Run.nw (nbsk (i64L [1, 4]).toArray) ?_
    intro b132
    refine z_ ?_
    refine Run.op1 (os1 (SX.c ⟨{ s.r with ce := true }, kvy, uvy, oy1, oy2⟩).toArray) (fun _ => ?_)
    refine z_ ?_
    refine Run.op1 (os1 (SX.c ⟨{ s.r with ce := true, at_ := 9 }, kvy, uvy, oy1, oy2⟩).toArray) (fun _ => ?_)
    refine z_ ?_
    refine Run.op1 (os1 (SX.c ⟨{ s.r with ce := true, at_ := 9, used := [1, 4] }, kvy, (.slice (some ⟨b132, 0, none⟩) 2 2), oy1, rfl⟩).toArray) (fun _ => ?_)
    refine z_ ?_
    (repeat refine RC.seq ?_); refine RC.drawS mixed (N := 9) rfl ?_
    refine dt 0 ?_
    refine dt 1 ?_
    refine dt 2 ?_
    refine dt 3 ?_
    refine dt 4 ?_
    refine dt 5 ?_
    refine DR.t 6 rfl (vla (hv := by exact SX.len _)) ?_
    refine DR.t 7 rfl (vix j hjm ⟨b2, j * 42, none⟩) ?_
    refine DR.c 8 (DOp.op1 rfl (ost (L' := (b14, .cells (SX.c ⟨{ s.r with ce := true, at_ := 9, used := [1, 4] }, kvy, (.slice (some ⟨b132, 0, none⟩) 2 2), oy1, rfl⟩).toArray 65 (0, 0)) :: (b132, Obj.cells (i64L [1, 4]).toArray 3 (0, 0)) :: (st1.L ++ (np ++ (bl ++ [(b114, Obj.cells (i64L [1, 4]).toArray 3 (0, 0))])) ++ ((b12, .cells (SX.c ⟨{ s.r with ce := true, at_ := 9, used := [1, 4] }, kv2, (.slice (some ⟨b114, 0, none⟩) 2 2), ok1, rfl⟩).toArray 44 (0, 0)) :: (b6, .cells (deC d j k (fwdC fs fa [o0, o1, o2, o3, o4, o5, o6, o7] fm)).toArray 56 (0, 0)) :: ((mb, .cells #[.slice (some ⟨b2, 0, none⟩) sm.l.length cap] 54 (0, 0)) :: (q1 ++ q2))))) (arr := (rws SX.c sm.l ++ rest).toArray) (e := 65) (b := b2) (off := j * 42) (v := .agg (SX.c ⟨{ s.r with ce := true, at_ := 9, used := [1, 4] }, kvy, (.slice (some ⟨b132, 0, none⟩) 2 2), oy1, rfl⟩).toArray) (ti := ti65) (rws SX.c (sm.l.set j ⟨{ s.r with ce := true, at_ := 9, used := [1, 4] }, kvy, (.slice (some ⟨b132, 0, none⟩) 2 2), oy1, rfl⟩) ++ rest).toArray (wr_row SX.len _ hyx) (by rw [List.size_toArray, h4]; show j * 42 + 42 ≤ cap * 42; have : (j + 1) * 42 ≤ cap * 42 := Nat.mul_le_mul_right _ (by omega); omega) (SX.one _) (hL := (perm_of fun f => by (simp only [List.map_append, List.map_cons, List.map_nil, List.sum_append, List.sum_cons, List.sum_nil] <;> omega))) (hs := SX.len _)) (fun _ => ?_))
    refine DR.done (by kernel_rfl) ?_
    refine z_ ?_
    have hrs2 : (sm.l.set j ⟨{ s.r with ce := true, at_ := 9, used := [1, 4] }, kvy, (.slice (some ⟨b132, 0, none⟩) 2 2), oy1, rfl⟩).map SX.r = st.rs.set j { s.r with ce := true, at_ := 9, used := [1, 4] } := by rw [List.map_set, heq]; rfl
    obtain ⟨pl, hpl⟩ : ∃ pl : Pl, pl = ⟨sb, mb, np ++ q1, [(b132, Obj.cells (i64L [1, 4]).toArray 3 (0, 0))] ++ q2, st1, stPut sm (b := b2) (cap := cap) (rest := rest) (pool' := [(b132, Obj.cells (i64L [1, 4]).toArray 3 (0, 0))] ++ q2) ⟨{ s.r with ce := true, at_ := 9, used := [1, 4] }, kvy, (.slice (some ⟨b132, 0, none⟩) 2 2), oy1, rfl⟩ hyx hv2 hbb h4 h2 h3 ⟨hks.1, show (2 : Nat) ≤ 1000000 from by decide⟩ (fun w hw => ⟨(sm.kn w hw.right _ (List.mem_of_getElem? hyx)).1, hsrc b132 w hw.left⟩) (fun _ h => List.mem_append_right _ h), by exact hrs1.trans hrs2.symm, by rw [hrs1]; exact RI_set hinv his⟩ := ⟨_, rfl⟩
    refine Run.op1 (OpTo.cv Try.func23 (fun w' hm => by have := PlSame pl (Lr := ((b14, .cells (SX.c ⟨{ s.r with ce := true, at_ := 9, used := [1, 4] }, kvy, (.slice (some ⟨b132, 0, none⟩) 2 2), oy1, rfl⟩).toArray 65 (0, 0)) :: (b12, .cells (SX.c ⟨{ s.r with ce := true, at_ := 9, used := [1, 4] }, kv2, (.slice (some ⟨b114, 0, none⟩) 2 2), ok1, rfl⟩).toArray 44 (0, 0)) :: (b6, .cells (deC d j k (fwdC fs fa [o0, o1, o2, o3, o4, o5, o6, o7] fm)).toArray 56 (0, 0)) :: (bl ++ [(b114, Obj.cells (i64L [1, 4]).toArray 3 (0, 0))]))) hm (by rw [hpl]; unfold Pl.L; dsimp only; unfold StO.L stPut; exact (perm_of fun f => by (simp only [List.map_append, List.map_cons, List.map_nil, List.sum_append, List.sum_cons, List.sum_nil] <;> omega))); rw [hpl] at this; exact this)) (fun _ => ?_)
    refine z_ ?_
    refine RQ.upQ (i + 1) pl (Nat.lt_succ_self _) hi' trivial (by rw [hpl]; exact ⟨rfl, rfl, rfl, rfl, trivial⟩) (L1 := pl.L ++ (((b14, .cells (SX.c ⟨{ s.r with ce := true, at_ := 9, used := [1, 4] }, kvy, (.slice (some ⟨b132, 0, none⟩) 2 2), oy1, rfl⟩).toArray 65 (0, 0)) :: (b12, .cells (SX.c ⟨{ s.r with ce := true, at_ := 9, used := [1, 4] }, kv2, (.slice (some ⟨b114, 0, none⟩) 2 2), ok1, rfl⟩).toArray 44 (0, 0)) :: (b6, .cells (deC d j k (fwdC fs fa [o0, o1, o2, o3, o4, o5, o6, o7] fm)).toArray 56 (0, 0)) :: (bl ++ [(b114, Obj.cells (i64L [1, 4]).toArray 3 (0, 0))])))) (by rw [hpl]; unfold Pl.L; dsimp only; unfold StO.L stPut; exact (perm_of fun f => by (simp only [List.map_append, List.map_cons, List.map_nil, List.sum_append, List.sum_cons, List.sum_nil] <;> omega))) (List.sublist_append_left _ _)
  have hi' : l.length = i := by have := of_decide_eq_false h; omega
  clear h
  subst hi'
  (repeat refine RQ.thenExit ?_); refine RQ.blockHere ?_
  refine z_ ?_
  exact RQ.ret1 rfl (Res.tmp rfl) fun w' hm => ⟨rfl, hm.fr⟩
end Go.Proofs.Ytnhnihkpacibgaa
