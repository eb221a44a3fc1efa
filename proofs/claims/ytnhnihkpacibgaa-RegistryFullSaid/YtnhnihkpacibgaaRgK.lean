/- registry's law: hashes, SameCert, SameSide, Same. -/
import Derived.Test.YtnhnihkpacibgaaRgH
import Derived.Test.YtnhnihkpacibgaaRgJ
set_option linter.unusedSimpArgs false
set_option linter.unusedVariables false
namespace Go.Sha
def certZ : List Go.Value := [.int .i64 0, .int .i64 0, .int .i64 0] ++ u8s zero8 ++ u8s zero8 ++ [.slice none 0 0, .slice none 0 0]
end Go.Sha
namespace Go.Proofs.Ytnhnihkpacibgaa
attribute [local irreducible] Go.Vc.Run Go.Vc.RC Go.Vc.RQ Go.Vc.DR Go.Vc.DOp
open Go Go.Vc Go.Sha

set_option maxRecDepth 10000 in set_option maxHeartbeats 4000000 in
theorem hashes_calls (l : List (List Nat)) (hH : HL l) (hll : l.length ≤ 1000000) (v1 v2 : Value) (w : World) (h1 : SrcW w 8 v1 l.length (u8s l.flatten)) (h2 : SrcW w 8 v2 l.length (u8s l.flatten)) :
    Gives Try.prog 52 [v1, v2] (.bool true) w := by
  refine enter Try.func52 rfl (Mem.nil w []) rfl ?_
  obtain ⟨a1, c1, rfl, hc1⟩ := h1.shape
  obtain ⟨a2, c2, rfl, hc2⟩ := h2.shape
  refine z_ ?_
  refine RC.up l.length (D := Unit) (fun _ _ => True) (fun i _ => [(5, .int .i64 i), (0, .slice a1 l.length c1), (1, .slice a2 l.length c2)])
    (fun _ _ => []) 0 () (Nat.zero_le _) trivial ⟨rfl, rfl, rfl, trivial⟩ (List.nil_sublist _) ?_
  intro i _ hi _
  refine z_ ?_
  (repeat refine RC.seq ?_); refine RC.wh rfl (fun h => RQ.next ?_) (fun h => ?_)
  · have hi' : i < l.length := by have := of_decide_eq_true h; omega
    clear h
    obtain ⟨y, hy⟩ : ∃ y, l[i]? = some y := ⟨_, List.getElem?_eq_getElem hi'⟩
    have hy8 := hH y (List.mem_of_getElem? hy)
    obtain ⟨ad1, d1, hv1, _, _, hr1⟩ := h1.pos (by omega)
    obtain ⟨ad2, d2, hv2, _, _, hr2⟩ := h2.pos (by omega)
    cases hv1
    cases hv2
    have hyl : (u8s y).length = 8 := by rw [u8s_len, hy8.1]
    have hl1 := hashAt hH hr1 hy
    have hl2 := hashAt hH hr2 hy
    refine z_ ?_
    (repeat refine RC.seq ?_); refine RC.drawS mixed (N := 9) rfl ?_
    refine dt 0 ?_
    refine dt 1 ?_
    refine DR.t 2 rfl (vix i hi' (ad1.add (i * 8))) ?_
    refine DR.t 3 rfl (vloA hl1 hyl) ?_
    refine dt 4 ?_
    refine dt 5 ?_
    refine DR.t 6 rfl (vix i hi' (ad2.add (i * 8))) ?_
    refine DR.t 7 rfl (vloA hl2 hyl) ?_
    refine DR.t 8 rfl (vnu 8 y hy8.1 (by kernel_rfl)) ?_
    refine DR.done (by kernel_rfl) ?_
    refine z_ ?_
    exact RQ.up (i + 1) () (Nat.lt_succ_self _) hi' trivial ⟨rfl, rfl, rfl, trivial⟩ (List.nil_sublist _)
  · have hi' : i = l.length := by have := of_decide_eq_false h; omega
    subst hi'
    (repeat refine RQ.thenExit ?_); refine RQ.blockHere ?_
    refine z_ ?_
    exact RQ.ret1 rfl (Res.tmp rfl) fun w' hm => ⟨rfl, hm.fr⟩

set_option maxRecDepth 10000 in set_option maxHeartbeats 4000000 in
theorem SameCert_calls (w : World) : Gives Try.prog 53 [.agg certZ.toArray, .agg certZ.toArray] (.bool true) w := by
  refine enter Try.func53 rfl (Mem.nil w []) rfl ?_
  refine z_ ?_
  refine Run.nw nbx ?_
  intro b2
  refine Run.nw nbx ?_
  intro b3
  refine z_ ?_
  refine Run.a (vnu 8 zero8 rfl (by kernel_rfl)) ?_
  refine z_ ?_
  refine Run.a (vnu 8 zero8 rfl (by kernel_rfl)) ?_
  refine z_ ?_
  refine RC.up 0 (D := Unit) (fun _ _ => True) (fun i _ => [(5, .int .i64 i), (2, .pointer (some ⟨b2, 0, none⟩)), (3, .pointer (some ⟨b3, 0, none⟩))])
    (fun _ _ => [(b3, .cells certZ.toArray 42 (0, 0)), (b2, .cells certZ.toArray 42 (0, 0))]) 0 () (Nat.zero_le _) trivial ⟨rfl, rfl, rfl, trivial⟩ (List.Sublist.refl _) ?_
  intro i _ hi _
  obtain rfl : i = 0 := by omega
  refine z_ ?_
  refine RC.up 0 (D := Unit) (fun _ _ => True) (fun i _ => [(6, .int .i64 i), (2, .pointer (some ⟨b2, 0, none⟩)), (3, .pointer (some ⟨b3, 0, none⟩))])
    (fun _ _ => [(b3, .cells certZ.toArray 42 (0, 0)), (b2, .cells certZ.toArray 42 (0, 0))]) 0 () (Nat.zero_le _) trivial ⟨rfl, rfl, rfl, trivial⟩ (List.Sublist.refl _) ?_
  intro i _ hi _
  obtain rfl : i = 0 := by omega
  refine z_ ?_
  exact RQ.ret1 rfl (Res.tmp rfl) fun w' hm => ⟨rfl, hm.fr⟩

theorem SX_fields (s : SX) : s.c = sideC s.r.ln s.r.wd s.r.nd s.kv s.r.made (restC s.r.bal s.r.fwd s.r.ce s.r.at_ s.uv) := rfl
theorem oneI {w : World} {ad : Addr} {l : List Int} (hr : ∀ j u, (i64L l)[j]? = some u → w.cell? (ad.add j) = some u) {i : Nat} {z : Int} (h : l[i]? = some z) : w.cell? (ad.add (i * 1)) = some (.int .i64 z) := by
  rw [Nat.mul_one]
  exact hr i _ (by unfold i64L; rw [List.getElem?_map, h]; rfl)

set_option maxRecDepth 10000 in set_option maxHeartbeats 4000000 in
theorem SameSide_calls (x y : SX) (hxy : x.r = y.r) (hkl : x.r.keys.length ≤ 1000000) (hul : x.r.used.length ≤ 1000000) (hH : HL x.r.keys) (w : World) (h1 : x.ok w) (h2 : y.ok w) :
    Gives Try.prog 39 [.agg x.c.toArray, .agg y.c.toArray] (.bool true) w := by
  refine enter Try.func39 rfl (Mem.nil w []) rfl ?_
  obtain ⟨r, kv, uv, ho1, ho2⟩ := x
  obtain ⟨r2, kv2, uv2, ho3, ho4⟩ := y
  dsimp only at hxy
  subst hxy
  obtain ⟨k1, u1⟩ := h1
  obtain ⟨k2, u2⟩ := h2
  dsimp only at k1 u1 k2 u2 hkl hul hH
  obtain ⟨a1, c1, rfl, hc1⟩ := u1.shape
  obtain ⟨a2, c2, rfl, hc2⟩ := u2.shape
  have hh := fun w' h1 h2 => hashes_calls r.keys hH hkl kv kv2 w' h1 h2
  obtain ⟨ln, wd, nd, made, bal, fwd, ce, at_, keys, used⟩ := r
  dsimp only at *
  refine z_ ?_
  refine Run.nw nbx ?_
  intro b2
  refine Run.nw nbx ?_
  intro b3
  refine z_ ?_
  refine Run.op1 (OpTo.cv Try.func52 (fun w' hm => hh w' (k1.mem hm) (k2.mem hm))) (fun _ => ?_)
  refine z_ ?_
  refine RC.up used.length (D := Unit) (fun _ _ => True) (fun i _ => [(5, .int .i64 i), (2, .pointer (some ⟨b2, 0, none⟩)), (3, .pointer (some ⟨b3, 0, none⟩))])
    (fun _ _ => [(b3, .cells (SX.c ⟨⟨ln, wd, nd, made, bal, fwd, ce, at_, keys, used⟩, kv2, .slice a2 used.length c2, ho3, ho4⟩).toArray 65 (0, 0)), (b2, .cells (SX.c ⟨⟨ln, wd, nd, made, bal, fwd, ce, at_, keys, used⟩, kv, .slice a1 used.length c1, ho1, ho2⟩).toArray 44 (0, 0))]) 0 () (Nat.zero_le _) trivial ⟨rfl, rfl, rfl, trivial⟩ (List.Sublist.refl _) ?_
  intro i _ hi _
  refine z_ ?_
  (repeat refine RC.seq ?_); refine RC.wh rfl (fun h => RQ.next ?_) (fun h => ?_)
  · have hi' : i < used.length := by have := of_decide_eq_true h; omega
    clear h
    obtain ⟨z, hz⟩ : ∃ z, used[i]? = some z := ⟨_, List.getElem?_eq_getElem hi'⟩
    obtain ⟨ad1, d1, hv1, _, _, hr1⟩ := u1.pos (by omega)
    obtain ⟨ad2, d2, hv2, _, _, hr2⟩ := u2.pos (by omega)
    cases hv1
    cases hv2
    have hl1 := oneI hr1 hz
    have hl2 := oneI hr2 hz
    refine z_ ?_
    (repeat refine RC.seq ?_); refine RC.drawS mixed (N := 11) rfl ?_
    refine dt 0 ?_
    refine dt 1 ?_
    refine dt 2 ?_
    refine DR.t 3 rfl (vix i hi' (ad1.add (i * 1))) ?_
    refine DR.t 4 rfl (vlo hl1) ?_
    refine dt 5 ?_
    refine dt 6 ?_
    refine dt 7 ?_
    refine DR.t 8 rfl (vix i hi' (ad2.add (i * 1))) ?_
    refine DR.t 9 rfl (vlo hl2) ?_
    refine dt 10 ?_
    refine DR.done (by kernel_rfl) ?_
    refine z_ ?_
    exact RQ.up (i + 1) () (Nat.lt_succ_self _) hi' trivial ⟨rfl, rfl, rfl, trivial⟩ (List.Sublist.refl _)
  · have hi' : i = used.length := by have := of_decide_eq_false h; omega
    subst hi'
    (repeat refine RQ.thenExit ?_); refine RQ.blockHere ?_
    refine z_ ?_
    refine Run.a (veb) ?_
    refine z_ ?_
    refine Run.a (veu 8 zero8 rfl (by kernel_rfl)) ?_
    refine z_ ?_
    refine Run.a (veb) ?_
    refine z_ ?_
    refine Run.op1 (OpTo.cv Try.func53 (fun w' _ => SameCert_calls w') (hx := by kernel_rfl)) (fun _ => ?_)
    refine z_ ?_
    exact RQ.ret1 rfl (Res.tmp rfl) fun w' hm => ⟨rfl, hm.fr⟩

set_option maxRecDepth 10000 in set_option maxHeartbeats 4000000 in
/-- Are two registries the same: of those that hold the same. -/
theorem Same_calls {l1 l2 : List SX} (hl : l1.map SX.r = l2.map SX.r) (h8 : l1.length ≤ 8) (hnn : ∀ r ∈ l1.map SX.r, 0 ≤ r.bal) (htt : totR (l1.map SX.r) ≤ 9223372036854775807) (hk : ∀ s ∈ l1, s.r.keys.length ≤ 1000000 ∧ s.r.used.length ≤ 1000000) (hH : ∀ s ∈ l1, HL s.r.keys)
    (sb mb : Nat) (v1 v2 : Value) (w : World) (h1 : StW 76 w sb v1 l1) (h2 : StW 54 w mb v2 l2) :
    Gives Try.prog 23 [.pointer (some ⟨sb, 0, none⟩), .pointer (some ⟨mb, 0, none⟩)] (.bool true) w := by
  refine enter Try.func23 rfl (Mem.nil w []) rfl ?_
  have hlen : l1.length = l2.length := by have := congrArg List.length hl; simpa using this
  obtain ⟨a1, c1, hv1, hc1⟩ := h1.2.1.shape
  obtain ⟨a2, c2, hv2, hc2⟩ := h2.2.1.shape
  have hs1 := h1.1
  have hs2 := h2.1
  rw [hv1] at hs1
  rw [hv2] at hs2
  have hcell := cell_sb hs2
  have hL := fun w' hs' => RLen_calls sb l1.length c1 a1 w' hs'
  have hT := fun w' hs' => Total_calls h8 hnn htt sb v1 w' hs'
  have hR := fun w' hs' => ref_Total_calls (l := l2) (by omega) (by rw [← hl]; exact hnn) (by rw [← hl]; exact htt) mb v2 w' hs'
  rw [← hl] at hR
  refine z_ ?_
  (repeat refine RC.seq ?_); refine RC.drawS mixed (N := 19) rfl ?_
  refine dt 0 ?_
  refine dt 1 ?_
  refine dt 2 ?_
  refine dt 3 ?_
  refine dt 5 ?_
  refine dt 6 ?_
  refine dt 7 ?_
  refine DR.t 8 rfl (vlo hcell) ?_
  refine dt 9 ?_
  refine DR.c 4 (DOp.op1 rfl (OpTo.cv Try.func16 (fun w' hm => hL w' (hm.old hs1))) (fun _ => ?_))
  refine dt 10 ?_
  refine dt 11 ?_
  refine dt 12 ?_
  refine dt 13 ?_
  refine dt 15 ?_
  refine DR.c 14 (DOp.op1 rfl (OpTo.cv Try.func15 (fun w' hm => hT w' (h1.fr hm.fr))) (fun _ => ?_))
  refine DR.c 16 (DOp.op1 rfl (OpTo.cv Try.func38 (fun w' hm => hR w' (h2.fr hm.fr))) (fun _ => ?_))
  refine dt 17 ?_
  refine dt 18 ?_
  refine DR.done (by kernel_rfl) ?_
  refine z_ ?_
  refine RC.up l2.length (D := Unit) (fun _ _ => True) (fun i _ => [(5, .int .i64 i), (0, .pointer (some ⟨sb, 0, none⟩)), (1, .pointer (some ⟨mb, 0, none⟩))])
    (fun _ _ => []) 0 () (Nat.zero_le _) trivial ⟨rfl, rfl, rfl, trivial⟩ (List.nil_sublist _) ?_
  intro i _ hi _
  refine z_ ?_
  refine Run.a (vlo hcell) ?_
  refine z_ ?_
  (repeat refine RC.seq ?_); refine RC.wh rfl (fun h => RQ.next ?_) (fun h => ?_)
  · have hi' : i < l2.length := by have := of_decide_eq_true h; omega
    clear h
    obtain ⟨s, hx⟩ : ∃ s, l1[i]? = some s := ⟨_, List.getElem?_eq_getElem (by omega)⟩
    obtain ⟨y, hy⟩ : ∃ y, l2[i]? = some y := ⟨_, List.getElem?_eq_getElem hi'⟩
    have hsy : s.r = y.r := by
      have e1 : (l1.map SX.r)[i]? = some s.r := by rw [List.getElem?_map, hx]; rfl
      rw [hl, List.getElem?_map, hy] at e1
      exact (Option.some.inj e1).symm
    have hks := hk s (List.mem_of_getElem? hx)
    have hHs := hH s (List.mem_of_getElem? hx)
    obtain ⟨ad2, d2, hv3, _, _, hr2⟩ := h2.2.1.pos (by omega)
    rw [hv2] at hv3
    cases hv3
    have hyl := y.len
    have hload : ∀ j u, y.c[j]? = some u → w.cell? ((ad2.add (i * 42)).add j) = some u := fun j u hj => by
      rw [add_add]; exact hr2 _ u (rws_at SX.len hy j u hj)
    have hyok := h2.2.2 y (List.mem_of_getElem? hy)
    refine z_ ?_
    refine Run.op1 (OpTo.callD Try.func14 (fun w' hm => Side_calls h8 sb v1 w' (h1.fr hm.fr) hx hks.1 hks.2)) ?_
    rintro ⟨⟨s2, bl⟩, hr2', hk2⟩
    dsimp only at hr2' hk2 ⊢
    have hl2 := s2.len
    refine z_ ?_
    refine Run.nw nal ?_
    intro b6
    refine Run.op1 (osa s2.c.toArray s2.one (hs := hl2)) (fun _ => ?_)
    refine z_ ?_
    have hS := fun w' h1 h2 => SameSide_calls s2 y (hr2'.trans hsy) (by rw [hr2']; exact hks.1) (by rw [hr2']; exact hks.2) (by rw [hr2']; exact hHs) w' h1 h2
    (repeat refine RC.seq ?_); refine RC.drawS mixed (N := 14) rfl ?_
    refine dt 0 ?_
    refine dt 1 ?_
    refine dt 2 ?_
    refine DR.t 3 rfl (vla (hv := by exact hl2)) ?_
    refine dt 4 ?_
    refine dt 5 ?_
    refine dt 6 ?_
    refine DR.t 7 rfl (vlo hcell) ?_
    refine dt 8 ?_
    refine DR.t 9 rfl (vix i hi' (ad2.add (i * 42))) ?_
    refine DR.t 10 rfl (vloA hload hyl) ?_
    refine DR.c 11 (DOp.op1 rfl (OpTo.cv Try.func39 (fun w' hm => hS w' (hk2 w' fun p hp => hm.has p (List.mem_cons_of_mem _ (List.mem_append_left _ hp))) (hyok.fr hm.fr))) (fun _ => ?_))
    refine dt 12 ?_
    refine dt 13 ?_
    refine DR.done (by kernel_rfl) ?_
    refine z_ ?_
    exact RQ.up (i + 1) () (Nat.lt_succ_self _) hi' trivial ⟨rfl, rfl, rfl, trivial⟩ (List.nil_sublist _)
  · have hi' : i = l2.length := by have := of_decide_eq_false h; omega
    subst hi'
    (repeat refine RQ.thenExit ?_); refine RQ.blockHere ?_
    refine z_ ?_
    refine Run.a (vlo hcell) ?_
    refine z_ ?_
    refine Run.op1 (OpTo.cv Try.func14 (fun w' hm => Side_bad h8 sb v1 w' (h1.fr hm.fr) (l2.length : Int) (by omega))) (fun _ => ?_)
    refine z_ ?_
    refine Run.nw nal ?_
    intro b8
    refine Run.op1 (osa zeroC.toArray (Rc.one ⟨0, 0, 0, 0, 0, 0, false, 0, [], []⟩ rfl rfl)) (fun _ => ?_)
    refine z_ ?_
    exact RQ.ret1 rfl (Res.tmp rfl) fun w' hm => ⟨rfl, hm.fr⟩
end Go.Proofs.Ytnhnihkpacibgaa
