/- quorum's law: awake; QuorumMay, QuorumChecks. -/
import Derived.Test.YtilfbomjaflbjaaDoorQuF
import Derived.Test.YtilfbomjaflbjaaDoorTre4
namespace Go.Sha
open Go.Vc (insI)
theorem certs_five : certs 5 = [treeOf [113, 0, 0, 0, 0, 0, 0, 0], treeOf [113, 1, 0, 0, 0, 0, 0, 0], treeOf [113, 2, 0, 0, 0, 0, 0, 0], treeOf [113, 3, 0, 0, 0, 0, 0, 0], treeOf [113, 4, 0, 0, 0, 0, 0, 0]] := rfl
theorem certs_take {n : Nat} (h : n ≤ 5) : certs n = (certs 5).take n := by
  unfold certs
  rw [← List.map_take, List.take_range, Nat.min_eq_left h]
theorem kOk_five : kOk (certs 5) = true := by
  rw [certs_five, tree0, tree1, tree2, tree3, tree4]
  decide
theorem kOk_certs {n : Nat} (h : n ≤ 5) : kOk (certs n) = true := by
  have h5 := of_decide_eq_true kOk_five
  rw [certs_take h]
  exact decide_eq_true ⟨fun hm => h5.1 (List.mem_of_mem_take hm), h5.2.sublist (List.take_sublist _ _)⟩
theorem may_certs {n : Nat} {nd : Int} (h : n ≤ 5) (h1 : 1 ≤ n) (h2 : 1 ≤ nd) (h3 : nd ≤ n) : mayP 4 2 nd (certs n) = true :=
  mayP_good (by rw [certs_len]; omega) (kOk_certs h) (by omega)
theorem right_signed {n k i : Nat} {m : List Nat} {who : List Int} (hk : who.getD i 0 = (k : Int)) (hkn : k < n) : rightS (certs n) m (sgOne m who [] i) = true := by
  rw [rightS_good (s := sgOne m who [] i) hk (certs_at hkn)]
  show checkT (treeOf (seedQ (k : Int))) m ((i % 8 : Nat) : Int) (rowOf (opened (seedQ (who.getD i 0)) (i % 8) (msgQ m [] i)) 16) (rowOf (shutd (seedQ (who.getD i 0)) (i % 8) (msgQ m [] i)) 16) (wayOf (seedQ (who.getD i 0)) (i % 8)).flatten = true
  rw [hk, msgQ_nil]
  exact checkT_signed (seedQ k) m (Nat.mod_lt _ (by decide))
/-- Numbers that go up. -/
def incr : Int → List Int → Bool
  | _, [] => true
  | last, k :: r => decide (last < k) && incr k r
theorem sgL_at {m : List Nat} {who : List Int} {bent : List Bool} {n i : Nat} (h : i < n) : (sgL m who bent n)[i]? = some (sgOne m who bent i) := by simp [sgL, h]
def inR (n : Nat) (who : List Int) : Prop := ∀ i, i < who.length → ∃ k : Nat, who.getD i 0 = (k : Int) ∧ k < n
theorem goes_who {n : Nat} {m : List Nat} {who : List Int} (hin : inR n who) : ∀ (d i : Nat) (last : Int), i + d = who.length → goes (certs n) m last ((sgL m who [] who.length).drop i) = incr last (who.drop i)
  | 0, i, last, h => by
    rw [List.drop_of_length_le (by rw [sgL_len]; omega), List.drop_of_length_le (by omega)]
    rfl
  | d + 1, i, last, h => by
    obtain ⟨k, hk, hkn⟩ := hin i (by omega)
    have ih := goes_who (m := m) hin d (i + 1) (k : Int) (by omega)
    have hw : who.drop i = (k : Int) :: who.drop (i + 1) := by
      rw [List.drop_eq_getElem_cons (show i < who.length by omega)]
      congr 1
      have := getD_some (l := who) (i := i) (by omega) 0
      rw [hk] at this
      exact (List.getElem?_eq_some_iff.1 this).2
    rw [goes_step (sgL_at (by omega)), right_signed hk hkn, hw, show (sgOne m who [] i).key = (k : Int) from hk, ih, Bool.true_and]
    rfl
def dist (who : List Int) : List Int := who.foldl (fun ks k => insI k ks) []
theorem cnt_who {n : Nat} {m : List Nat} {who : List Int} (hin : inR n who) : ∀ i, i ≤ who.length → cntK (certs n) m ((sgL m who [] who.length).take i) = dist (who.take i)
  | 0, _ => by simp [cntK, dist]
  | i + 1, h => by
    obtain ⟨k, hk, hkn⟩ := hin i (by omega)
    rw [cntK_step (sgL_at (by omega)), cnt_who hin i (by omega), right_signed hk hkn, if_pos rfl]
    unfold dist
    rw [List.take_add_one, getD_some (l := who) (i := i) (by omega) 0, Option.toList_some, List.foldl_append]
    rfl
theorem goes_all {n : Nat} {m : List Nat} {who : List Int} (hin : inR n who) : goes (certs n) m (-1) (sgL m who [] who.length) = incr (-1) who := by
  have := goes_who (m := m) hin who.length 0 (-1) (by omega)
  rwa [List.drop_zero, List.drop_zero] at this
theorem cnt_all {n : Nat} {m : List Nat} {who : List Int} (hin : inR n who) : cntK (certs n) m (sgL m who [] who.length) = dist who := by
  have := cnt_who (m := m) hin who.length (Nat.le_refl _)
  rwa [List.take_of_length_le (by rw [sgL_len]; omega), List.take_length] at this
theorem chk_all {n : Nat} {nd : Int} {m : List Nat} {who : List Int} (hin : inR n who) (h : n ≤ 5) (h1 : 1 ≤ n) (h2 : 1 ≤ nd) (h3 : nd ≤ n) : chkQ 4 2 nd (certs n) m (sgL m who [] who.length) = (decide (nd ≤ who.length) && incr (-1) who) := by
  unfold chkQ
  rw [may_certs h h1 h2 h3, goes_all hin, sgL_len, Bool.true_and]
end Go.Sha
namespace Go.Proofs.YtilfbomjaflbjaaDoor
open Go Go.Vc Go.Sha

set_option maxRecDepth 10000 in
theorem q_awake_calls (w : World) (hK : Laid w) : Gives Tryd.prog 22 [] (.bool true) w := by
  refine enter Tryd.func22 rfl (Mem.nil w []) rfl ?_
  have h4l := h8_lt (k := 4) (by decide)
  have hin1 : inR 3 [0, 2] := by
    intro i hi
    match i, hi with
    | 0, _ => exact ⟨0, rfl, by decide⟩
    | 1, _ => exact ⟨2, rfl, by decide⟩
  have hin2 : inR 3 [2, 0] := by
    intro i hi
    match i, hi with
    | 0, _ => exact ⟨2, rfl, by decide⟩
    | 1, _ => exact ⟨0, rfl, by decide⟩
  have hin3 : inR 3 [1, 1] := by
    intro i hi
    match i, hi with
    | 0, _ => exact ⟨1, rfl, by decide⟩
    | 1, _ => exact ⟨1, rfl, by decide⟩
  have r1 : chkQ 4 2 2 (certs 3) (h8 4) (sgL (h8 4) [0, 2] [] 2) = true := (chk_all hin1 (by decide) (by decide) (by decide) (by decide)).trans rfl
  have r2 : chkQ 4 2 2 (certs 3) (h8 4) (sgL (h8 4) [2, 0] [] 2) = false := (chk_all hin2 (by decide) (by decide) (by decide) (by decide)).trans rfl
  have r3 : cntK (certs 3) (h8 4) (sgL (h8 4) [1, 1] [] 2) = [1] := (cnt_all hin3).trans rfl
  have hmy : mayP 4 2 2 (certs 3) = true := may_certs (by decide) (by decide) (by decide) (by decide)
  have hcl := certs_len 3
  have hcH := certs_HL 3
  have hMd := fun w' => Made_calls 3 2 w'
  rw [show min (3 : Int).toNat 8 = 3 from rfl] at hMd
  have hM := fun v w' hs' => May_calls 4 2 2 (certs 3) hcH (by rw [hcl]; decide) v w' hs'
  have hS1 := fun vw vb w' h1 h2 => Signed_calls (h8 4) rfl h4l [0, 2] (by decide) [] (by decide) vw vb w' h1 h2
  have hS2 := fun vw vb w' h1 h2 => Signed_calls (h8 4) rfl h4l [2, 0] (by decide) [] (by decide) vw vb w' h1 h2
  have hS3 := fun vw vb w' h1 h2 => Signed_calls (h8 4) rfl h4l [1, 1] (by decide) [] (by decide) vw vb w' h1 h2
  have hC1 := fun v vs w' h1 h2 h3 => qCheck_calls 4 2 2 (certs 3) hcH (by rw [hcl]; decide) (h8 4) rfl h4l (sgL (h8 4) [0, 2] [] 2) (by rw [sgL_len]; decide) v vs w' h1 h2 h3
  have hC2 := fun v vs w' h1 h2 h3 => qCheck_calls 4 2 2 (certs 3) hcH (by rw [hcl]; decide) (h8 4) rfl h4l (sgL (h8 4) [2, 0] [] 2) (by rw [sgL_len]; decide) v vs w' h1 h2 h3
  have hC3 := fun v vs w' h1 h2 h3 => qCount_calls 4 2 2 (certs 3) hcH (h8 4) rfl h4l (sgL (h8 4) [1, 1] [] 2) (by rw [sgL_len]; decide) v vs w' h1 h2 h3
  have l1 := sgL_len (h8 4) [0, 2] [] 2
  have l2 := sgL_len (h8 4) [2, 0] [] 2
  have l3 := sgL_len (h8 4) [1, 1] [] 2
  rw [hmy] at hM
  rw [r1, l1, hcl] at hC1
  rw [r2, l2, hcl] at hC2
  rw [r3, l3, hcl] at hC3
  rw [hcl] at hM
  rw [show ([0, 2] : List Int).length = 2 from rfl] at hS1
  rw [show ([2, 0] : List Int).length = 2 from rfl] at hS2
  rw [show ([1, 1] : List Int).length = 2 from rfl] at hS3
  generalize sgL (h8 4) [0, 2] [] 2 = g1 at *
  generalize sgL (h8 4) [2, 0] [] 2 = g2 at *
  generalize sgL (h8 4) [1, 1] [] 2 = g3 at *
  generalize certs 3 = ct at *
  (repeat refine RC.seq ?_); refine RC.region ?_
  refine Run.v rfl rfl rfl (Val.of rfl) ?_
  refine Run.nil (RQ.next ?_)
  (repeat refine RC.seq ?_); refine RC.region ?_
  refine Run.op rfl (OpTo.callMkP Tryd.func25 rfl rfl rfl rfl rfl rfl (fun w' _ => hMd w')) ?_
  rintro ⟨⟨v, bl⟩, hown⟩
  dsimp only at hown ⊢
  obtain ⟨ka, kc, rfl, hkc⟩ := hown.shape
  refine Run.mk rfl rfl rfl (New.allocTo tabOk (cs := (prm 0 0 0 (.slice none 0 0)).toArray) rfl rfl rfl) ?_
  intro b1
  refine Run.op rfl (OpTo.setV tabOk [] (prm 0 0 0 (.slice none 0 0)) (prm 4 2 2 (.slice ka 3 kc)) [] rfl rfl rfl rfl rfl (List.Perm.refl _) rfl (by simp) rfl rfl rfl (by intro u hu; simp [prm] at hu; rcases hu with rfl | rfl | rfl | rfl <;> rfl)) (fun _ => ?_)
  rw [List.nil_append, List.append_nil]
  refine Run.nil (RQ.next ?_)
  (repeat refine RC.seq ?_); refine RC.region ?_
  refine Run.v rfl rfl rfl (Val.buildA tabOk (parts := [(0, .const (.int .u8 4))]) (cells := (u8s (h8 4)).toArray) rfl rfl rfl rfl rfl rfl) ?_
  refine Run.mk rfl rfl rfl (New.alloc tabOk rfl rfl) ?_
  intro b2
  refine Run.op rfl (OpTo.setAll tabOk rfl rfl rfl rfl rfl (List.Perm.refl _) rfl rfl) (fun _ => ?_)
  refine Run.nil (RQ.next ?_)
  (repeat refine RC.seq ?_); refine RC.drawS mixed (N := 29) rfl ?_
  refine DR.take 0 rfl (by repeat (first | exact List.nil_sublist _ | exact List.Sublist.refl _ | apply List.Sublist.cons_cons | apply List.Sublist.cons | apply Go.Vc.subApp)) inferInstance (by kernel_rfl) (by kernel_rfl) (by kernel_rfl) (by kernel_rfl) rfl rfl (Wanted.plain rfl) (Val.loadAll tabOk rfl rfl rfl rfl m1 rfl) ?_
  refine DR.one (i := 1) (by kernel_rfl) ?_
  refine DOp.op rfl (Wanted.plain rfl) (OpTo.callV Tryd.func23 rfl rfl rfl rfl rfl rfl (fun w' hm => hM _ w' (hown.srcW (fun q hq => hm.has q (by repeat (first | exact List.mem_append_left _ hq | exact hq | apply List.mem_append_right | apply List.mem_cons_of_mem)))))) (.inl fun _ => (by repeat (first | exact List.nil_sublist _ | exact List.Sublist.refl _ | apply List.Sublist.cons_cons | apply List.Sublist.cons | apply Go.Vc.subApp))) (fun _ => ?_)
  refine DR.take 2 rfl (by repeat (first | exact List.nil_sublist _ | exact List.Sublist.refl _ | apply List.Sublist.cons_cons | apply List.Sublist.cons | apply Go.Vc.subApp)) inferInstance (by kernel_rfl) (by kernel_rfl) (by kernel_rfl) (by kernel_rfl) rfl rfl (Wanted.plain rfl) (Val.of rfl) ?_
  refine DR.take 3 rfl (by repeat (first | exact List.nil_sublist _ | exact List.Sublist.refl _ | apply List.Sublist.cons_cons | apply List.Sublist.cons | apply Go.Vc.subApp)) inferInstance (by kernel_rfl) (by kernel_rfl) (by kernel_rfl) (by kernel_rfl) rfl rfl (Wanted.guard rfl rfl rfl rfl) (Val.loadAll tabOk rfl rfl rfl rfl m1 rfl) ?_
  refine DR.take 4 rfl (by repeat (first | exact List.nil_sublist _ | exact List.Sublist.refl _ | apply List.Sublist.cons_cons | apply List.Sublist.cons | apply Go.Vc.subApp)) inferInstance (by kernel_rfl) (by kernel_rfl) (by kernel_rfl) (by kernel_rfl) rfl rfl (Wanted.guard rfl rfl rfl rfl) (Val.loadU tabOk rfl rfl rfl rfl m0 rfl) ?_
  refine DR.take 5 rfl (by repeat (first | exact List.nil_sublist _ | exact List.Sublist.refl _ | apply List.Sublist.cons_cons | apply List.Sublist.cons | apply Go.Vc.subApp)) inferInstance (by kernel_rfl) (by kernel_rfl) (by kernel_rfl) (by kernel_rfl) rfl rfl (Wanted.guard rfl rfl rfl rfl) (Val.loadU tabOk rfl rfl rfl rfl m0 rfl) ?_
  refine DR.one (i := 6) (by kernel_rfl) (DOp.op rfl (Wanted.guard rfl rfl rfl rfl) (OpTo.new rfl rfl (New.buildSlice tabOk (parts := [(0, .const (.int .i64 0)), (1, .const (.int .i64 2))]) (cells := (i64L [0, 2]).toArray) rfl rfl rfl rfl rfl rfl (by kernel_rfl))) (.inl fun _ => (by repeat (first | exact List.nil_sublist _ | exact List.Sublist.refl _ | apply List.Sublist.cons_cons | apply List.Sublist.cons | apply Go.Vc.subApp))) ?_)
  intro b11
  refine DR.one (i := 7) (by kernel_rfl) (DOp.op rfl (Wanted.guard rfl rfl rfl rfl) (OpTo.callMk Tryd.func26 rfl rfl rfl rfl rfl rfl (fun w' hm => hS1 _ _ w' (SrcW.row hm m0 rfl (Nat.le_refl 2)) .nil)) (.inl fun _ => (by repeat (first | exact List.nil_sublist _ | exact List.Sublist.refl _ | apply List.Sublist.cons_cons | apply List.Sublist.cons | apply Go.Vc.subApp))) ?_)
  rintro ⟨⟨v12, bl12⟩, hown12⟩
  dsimp only at hown12 ⊢
  refine DR.one (i := 8) (by kernel_rfl) ?_
  refine DOp.op rfl (Wanted.guard rfl rfl rfl rfl) (OpTo.callV Tryd.func27 rfl rfl rfl rfl rfl rfl (fun w' hm => hC1 _ _ w' (hown.srcW (fun q hq => hm.has q (by repeat (first | exact List.mem_append_left _ hq | exact hq | apply List.mem_append_right | apply List.mem_cons_of_mem)))) (hown12.srcW (fun q hq => hm.has q (by repeat (first | exact List.mem_append_left _ hq | exact hq | apply List.mem_append_right | apply List.mem_cons_of_mem)))) (hK.fr hm.fr (by simp)))) (.inl fun _ => by repeat (first | exact List.nil_sublist _ | exact List.Sublist.refl _ | apply List.Sublist.cons_cons | apply List.Sublist.cons | apply Go.Vc.subApp)) (fun _ => ?_)
  refine DR.take 9 rfl (by repeat (first | exact List.nil_sublist _ | exact List.Sublist.refl _ | apply List.Sublist.cons_cons | apply List.Sublist.cons | apply Go.Vc.subApp)) inferInstance (by kernel_rfl) (by kernel_rfl) (by kernel_rfl) (by kernel_rfl) rfl rfl (Wanted.plain rfl) (Val.of rfl) ?_
  refine DR.take 10 rfl (by repeat (first | exact List.nil_sublist _ | exact List.Sublist.refl _ | apply List.Sublist.cons_cons | apply List.Sublist.cons | apply Go.Vc.subApp)) inferInstance (by kernel_rfl) (by kernel_rfl) (by kernel_rfl) (by kernel_rfl) rfl rfl (Wanted.plain rfl) (Val.of rfl) ?_
  refine DR.take 11 rfl (by repeat (first | exact List.nil_sublist _ | exact List.Sublist.refl _ | apply List.Sublist.cons_cons | apply List.Sublist.cons | apply Go.Vc.subApp)) inferInstance (by kernel_rfl) (by kernel_rfl) (by kernel_rfl) (by kernel_rfl) rfl rfl (Wanted.guard rfl rfl rfl rfl) (Val.loadAll tabOk rfl rfl rfl rfl m1 rfl) ?_
  refine DR.take 12 rfl (by repeat (first | exact List.nil_sublist _ | exact List.Sublist.refl _ | apply List.Sublist.cons_cons | apply List.Sublist.cons | apply Go.Vc.subApp)) inferInstance (by kernel_rfl) (by kernel_rfl) (by kernel_rfl) (by kernel_rfl) rfl rfl (Wanted.guard rfl rfl rfl rfl) (Val.loadU tabOk rfl rfl rfl rfl m0 rfl) ?_
  refine DR.take 13 rfl (by repeat (first | exact List.nil_sublist _ | exact List.Sublist.refl _ | apply List.Sublist.cons_cons | apply List.Sublist.cons | apply Go.Vc.subApp)) inferInstance (by kernel_rfl) (by kernel_rfl) (by kernel_rfl) (by kernel_rfl) rfl rfl (Wanted.guard rfl rfl rfl rfl) (Val.loadU tabOk rfl rfl rfl rfl m0 rfl) ?_
  refine DR.one (i := 14) (by kernel_rfl) (DOp.op rfl (Wanted.guard rfl rfl rfl rfl) (OpTo.new rfl rfl (New.buildSlice tabOk (parts := [(0, .const (.int .i64 2)), (1, .const (.int .i64 0))]) (cells := (i64L [2, 0]).toArray) rfl rfl rfl rfl rfl rfl (by kernel_rfl))) (.inl fun _ => (by repeat (first | exact List.nil_sublist _ | exact List.Sublist.refl _ | apply List.Sublist.cons_cons | apply List.Sublist.cons | apply Go.Vc.subApp))) ?_)
  intro b19
  refine DR.one (i := 15) (by kernel_rfl) (DOp.op rfl (Wanted.guard rfl rfl rfl rfl) (OpTo.callMk Tryd.func26 rfl rfl rfl rfl rfl rfl (fun w' hm => hS2 _ _ w' (SrcW.row hm m0 rfl (Nat.le_refl 2)) .nil)) (.inl fun _ => (by repeat (first | exact List.nil_sublist _ | exact List.Sublist.refl _ | apply List.Sublist.cons_cons | apply List.Sublist.cons | apply Go.Vc.subApp))) ?_)
  rintro ⟨⟨v20, bl20⟩, hown20⟩
  dsimp only at hown20 ⊢
  refine DR.one (i := 16) (by kernel_rfl) ?_
  refine DOp.op rfl (Wanted.guard rfl rfl rfl rfl) (OpTo.callV Tryd.func27 rfl rfl rfl rfl rfl rfl (fun w' hm => hC2 _ _ w' (hown.srcW (fun q hq => hm.has q (by repeat (first | exact List.mem_append_left _ hq | exact hq | apply List.mem_append_right | apply List.mem_cons_of_mem)))) (hown20.srcW (fun q hq => hm.has q (by repeat (first | exact List.mem_append_left _ hq | exact hq | apply List.mem_append_right | apply List.mem_cons_of_mem)))) (hK.fr hm.fr (by simp)))) (.inl fun _ => by repeat (first | exact List.nil_sublist _ | exact List.Sublist.refl _ | apply List.Sublist.cons_cons | apply List.Sublist.cons | apply Go.Vc.subApp)) (fun _ => ?_)
  refine DR.take 17 rfl (by repeat (first | exact List.nil_sublist _ | exact List.Sublist.refl _ | apply List.Sublist.cons_cons | apply List.Sublist.cons | apply Go.Vc.subApp)) inferInstance (by kernel_rfl) (by kernel_rfl) (by kernel_rfl) (by kernel_rfl) rfl rfl (Wanted.guard rfl rfl rfl rfl) (Val.of rfl) ?_
  refine DR.take 18 rfl (by repeat (first | exact List.nil_sublist _ | exact List.Sublist.refl _ | apply List.Sublist.cons_cons | apply List.Sublist.cons | apply Go.Vc.subApp)) inferInstance (by kernel_rfl) (by kernel_rfl) (by kernel_rfl) (by kernel_rfl) rfl rfl (Wanted.plain rfl) (Val.of rfl) ?_
  refine DR.take 19 rfl (by repeat (first | exact List.nil_sublist _ | exact List.Sublist.refl _ | apply List.Sublist.cons_cons | apply List.Sublist.cons | apply Go.Vc.subApp)) inferInstance (by kernel_rfl) (by kernel_rfl) (by kernel_rfl) (by kernel_rfl) rfl rfl (Wanted.plain rfl) (Val.of rfl) ?_
  refine DR.take 20 rfl (by repeat (first | exact List.nil_sublist _ | exact List.Sublist.refl _ | apply List.Sublist.cons_cons | apply List.Sublist.cons | apply Go.Vc.subApp)) inferInstance (by kernel_rfl) (by kernel_rfl) (by kernel_rfl) (by kernel_rfl) rfl rfl (Wanted.guard rfl rfl rfl rfl) (Val.loadAll tabOk rfl rfl rfl rfl m1 rfl) ?_
  refine DR.take 21 rfl (by repeat (first | exact List.nil_sublist _ | exact List.Sublist.refl _ | apply List.Sublist.cons_cons | apply List.Sublist.cons | apply Go.Vc.subApp)) inferInstance (by kernel_rfl) (by kernel_rfl) (by kernel_rfl) (by kernel_rfl) rfl rfl (Wanted.guard rfl rfl rfl rfl) (Val.loadU tabOk rfl rfl rfl rfl m0 rfl) ?_
  refine DR.take 22 rfl (by repeat (first | exact List.nil_sublist _ | exact List.Sublist.refl _ | apply List.Sublist.cons_cons | apply List.Sublist.cons | apply Go.Vc.subApp)) inferInstance (by kernel_rfl) (by kernel_rfl) (by kernel_rfl) (by kernel_rfl) rfl rfl (Wanted.guard rfl rfl rfl rfl) (Val.loadU tabOk rfl rfl rfl rfl m0 rfl) ?_
  refine DR.one (i := 23) (by kernel_rfl) (DOp.op rfl (Wanted.guard rfl rfl rfl rfl) (OpTo.new rfl rfl (New.buildSlice tabOk (parts := [(0, .const (.int .i64 1)), (1, .const (.int .i64 1))]) (cells := (i64L [1, 1]).toArray) rfl rfl rfl rfl rfl rfl (by kernel_rfl))) (.inl fun _ => (by repeat (first | exact List.nil_sublist _ | exact List.Sublist.refl _ | apply List.Sublist.cons_cons | apply List.Sublist.cons | apply Go.Vc.subApp))) ?_)
  intro b28
  refine DR.one (i := 24) (by kernel_rfl) (DOp.op rfl (Wanted.guard rfl rfl rfl rfl) (OpTo.callMk Tryd.func26 rfl rfl rfl rfl rfl rfl (fun w' hm => hS3 _ _ w' (SrcW.row hm m0 rfl (Nat.le_refl 2)) .nil)) (.inl fun _ => (by repeat (first | exact List.nil_sublist _ | exact List.Sublist.refl _ | apply List.Sublist.cons_cons | apply List.Sublist.cons | apply Go.Vc.subApp))) ?_)
  rintro ⟨⟨v29, bl29⟩, hown29⟩
  dsimp only at hown29 ⊢
  refine DR.one (i := 25) (by kernel_rfl) ?_
  refine DOp.op rfl (Wanted.guard rfl rfl rfl rfl) (OpTo.callV Tryd.func29 rfl rfl rfl rfl rfl rfl (fun w' hm => hC3 _ _ w' (hown.srcW (fun q hq => hm.has q (by repeat (first | exact List.mem_append_left _ hq | exact hq | apply List.mem_append_right | apply List.mem_cons_of_mem)))) (hown29.srcW (fun q hq => hm.has q (by repeat (first | exact List.mem_append_left _ hq | exact hq | apply List.mem_append_right | apply List.mem_cons_of_mem)))) (hK.fr hm.fr (by simp)))) (.inl fun _ => by repeat (first | exact List.nil_sublist _ | exact List.Sublist.refl _ | apply List.Sublist.cons_cons | apply List.Sublist.cons | apply Go.Vc.subApp)) (fun _ => ?_)
  refine DR.take 26 rfl (by repeat (first | exact List.nil_sublist _ | exact List.Sublist.refl _ | apply List.Sublist.cons_cons | apply List.Sublist.cons | apply Go.Vc.subApp)) inferInstance (by kernel_rfl) (by kernel_rfl) (by kernel_rfl) (by kernel_rfl) rfl rfl (Wanted.guard rfl rfl rfl rfl) (Val.of rfl) ?_
  refine DR.take 27 rfl (by repeat (first | exact List.nil_sublist _ | exact List.Sublist.refl _ | apply List.Sublist.cons_cons | apply List.Sublist.cons | apply Go.Vc.subApp)) inferInstance (by kernel_rfl) (by kernel_rfl) (by kernel_rfl) (by kernel_rfl) rfl rfl (Wanted.plain rfl) (Val.of rfl) ?_
  refine DR.take 28 rfl (by repeat (first | exact List.nil_sublist _ | exact List.Sublist.refl _ | apply List.Sublist.cons_cons | apply List.Sublist.cons | apply Go.Vc.subApp)) inferInstance (by kernel_rfl) (by kernel_rfl) (by kernel_rfl) (by kernel_rfl) rfl rfl (Wanted.plain rfl) (Val.of rfl) ?_
  refine DR.done (by kernel_rfl) (RQ.next ?_)
  refine RC.ret ?_; (repeat first | refine RQ.thenRet ?_ | refine RQ.blockRet ?_); exact RQ.ret1 rfl (Res.tmp rfl) fun w' hm => ⟨rfl, hm.fr⟩
end Go.Proofs.YtilfbomjaflbjaaDoor
