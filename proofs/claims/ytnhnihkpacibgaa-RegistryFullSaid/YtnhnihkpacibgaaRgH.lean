/- registry: Copy. -/
import Derived.Test.YtnhnihkpacibgaaRgG
set_option linter.unusedSimpArgs false
set_option linter.unusedVariables false
namespace Go.Proofs.Ytnhnihkpacibgaa
attribute [local irreducible] Go.Vc.Run Go.Vc.RC Go.Vc.RQ Go.Vc.DR Go.Vc.DOp
open Go Go.Vc Go.Sha
abbrev CpY (rs : List Rc) := {y : (sb : Nat) × (pool : Hp) × PSt sb pool // y.2.2.rs = rs}

set_option maxRecDepth 10000 in set_option maxHeartbeats 4000000 in
theorem Copy_calls {l : List SX} (hll : l.length ≤ 8) (hlk : ∀ s ∈ l, s.r.keys.length ≤ 1000000 ∧ s.r.used.length ≤ 1000000) (sb : Nat) (v : Value) (w : World) (hst : StW 76 w sb v l) :
    Turns Try.prog 21 [.pointer (some ⟨sb, 0, none⟩)] w [] (Y := CpY (l.map SX.r)) (fun y => .pointer (some ⟨y.1.1, 0, none⟩)) (fun y => y.1.2.2.L ++ y.1.2.1) := by
  refine enter Try.func21 rfl (Mem.nil w []) rfl ?_
  obtain ⟨hs1, hs2, hs3⟩ := hst
  obtain ⟨a, c, rfl, hc⟩ := hs2.shape
  have hcell := cell_sb hs1
  refine z_ ?_
  refine Run.op1 (OpTo.callNew Try.func10 rfl rfl rfl rfl rfl rfl (fun w' _ => RNew_calls w')) ?_
  intro b
  refine z_ ?_
  refine Run.a (vlo hcell) ?_
  refine z_ ?_
  refine RC.up l.length (D := Value × Hp × List SX × Hp) (fun i d => Own 44 42 d.1 d.2.2.1.length (rws SX.c d.2.2.1) d.2.1 ∧ (d.2.2.1.map SX.r = (l.map SX.r).take i ∧ d.2.2.1.length = i) ∧ ∀ w, Has d.2.2.2 w → ∀ s ∈ d.2.2.1, s.ok w)
    (fun i d => [(14, .int .i64 i), (13, .int .i64 l.length), (12, .slice a l.length c), (3, .pointer (some ⟨b, 0, none⟩))]) (fun i d => (b, .cells #[d.1] 76 (0, 0)) :: (d.2.1 ++ d.2.2.2)) 0 (.slice none 0 0, [], [], []) (Nat.zero_le _)
    ⟨Own.nil, ⟨by simp, rfl⟩, fun w _ s hs => by cases hs⟩ ⟨rfl, rfl, rfl, rfl, trivial⟩ (List.Sublist.refl _) ?_
  rintro i ⟨v1, bb, l1, pool⟩ hi ⟨hown, ⟨hrs, hln⟩, hkn⟩
  dsimp only at hown hrs hln hkn ⊢
  obtain ⟨va, vc, rfl, hvc⟩ := hown.shape
  refine z_ ?_
  (repeat refine RC.seq ?_); refine RC.wh rfl (fun h => RQ.next ?_) (fun h => ?_)
  · have hi' : i < l.length := by have := of_decide_eq_true h; omega
    clear h
    obtain ⟨s, hx⟩ : ∃ s, l[i]? = some s := ⟨_, List.getElem?_eq_getElem hi'⟩
    obtain ⟨ad, c', hv', hc', hcl, hr⟩ := hs2.pos (by omega)
    cases hv'
    have hsl := s.len
    have hload : ∀ j u, s.c[j]? = some u → w.cell? ((ad.add (i * 42)).add j) = some u := fun j u hj => by
      rw [add_add]; exact hr _ u (rws_at SX.len hx j u hj)
    have hok := hs3 s (List.mem_of_getElem? hx)
    have hlks := hlk s (List.mem_of_getElem? hx)
    refine z_ ?_
    refine Run.a (vix i hi' (ad.add (i * 42))) ?_
    refine Run.a (vloA hload hsl) ?_
    refine Run.nw nal ?_
    intro b5
    refine Run.op1 (osa s.c.toArray s.one) (fun _ => ?_)
    refine z_ ?_
    (repeat refine RC.seq ?_); refine RC.draw ([(b5, .cells s.c.toArray 44 (0, 0)), (b, .cells #[.slice va l1.length vc] 76 (0, 0))]) mixed (N := 12) rfl ?_
    refine dt 0 ?_
    refine dt 1 ?_
    refine dt 2 ?_
    refine dt 3 ?_
    refine dt 4 ?_
    refine DR.t 5 rfl (vla (hv := by exact hsl)) ?_
    refine DR.c 6 (DOp.op1 rfl (OpTo.callD Try.func32 (fun w' hm => copied_calls s hlks.1 hlks.2 w' (hok.fr hm.fr))) ?_)
    rintro ⟨⟨s2, bl⟩, hr2, hk2⟩
    dsimp only at hr2 hk2 ⊢
    have hl2 := s2.len
    refine DR.c 7 ?_
    refine DOp.op1 rfl (OpTo.new rfl rfl (nbsl s2.c.toArray (fillS_1 42 _ s2.c hl2))) ?_
    intro b25
    refine DR.c 8 (DOp.op1 rfl (OpTo.append (L1 := (b25, .cells s2.c.toArray 44 (0, 0)) :: (bl ++ ((b5, .cells s.c.toArray 44 (0, 0)) :: (b, .cells #[.slice va l1.length vc] 76 (0, 0)) :: pool))) tabOk hown (Src.at ⟨b25, 0, none⟩ 1 1 s2.c (by rw [hl2]; rfl) (Rd.rowAll m0)) rfl rfl rfl rfl rfl rfl rfl rfl rfl (perm_of fun f => by (simp only [List.map_append, List.map_cons, List.map_nil, List.sum_append, List.sum_cons, List.sum_nil] <;> omega)) s2.one (by unfold maxLen; omega) (by simp only [ti44]; omega)) ?_)
    rintro ⟨⟨v9, bl9⟩, hown9⟩
    dsimp only at hown9 ⊢
    obtain ⟨a9, c9, rfl, hc9⟩ := hown9.shape
    refine dt 9 ?_
    refine dt 10 ?_
    refine DR.c 11 (DOp.op1 rfl (os1 (arr := #[.slice va l1.length vc]) (e := 76) (L' := bl9 ++ ((b25, .cells s2.c.toArray 44 (0, 0)) :: (bl ++ ((b5, .cells s.c.toArray 44 (0, 0)) :: pool)))) #[.slice a9 (l1.length + 1) c9] (hL := (perm_of fun f => by (simp only [List.map_append, List.map_cons, List.map_nil, List.sum_append, List.sum_cons, List.sum_nil] <;> omega)))) (fun _ => ?_))
    refine DR.done (by kernel_rfl) ?_
    refine z_ ?_
    refine RQ.upQ (i + 1) (.slice a9 (l1.length + 1) c9, bl9, l1 ++ [s2], bl ++ pool) (Nat.lt_succ_self _) hi' ⟨?_, ⟨?_, ?_⟩, ?_⟩ ⟨rfl, rfl, rfl, rfl, trivial⟩ (L1 := ((b, .cells #[.slice a9 (l1.length + 1) c9] 76 (0, 0)) :: (bl9 ++ (bl ++ pool))) ++ [(b25, .cells s2.c.toArray 44 (0, 0)), (b5, .cells s.c.toArray 44 (0, 0))]) (perm_of fun f => by (simp only [List.map_append, List.map_cons, List.map_nil, List.sum_append, List.sum_cons, List.sum_nil] <;> omega)) (List.sublist_append_left _ _)
    · show Own _ _ _ (l1 ++ [s2]).length _ _
      rw [rws_app, rws_one, List.length_append]; exact hown9
    · show (l1 ++ [s2]).map SX.r = _
      rw [List.map_append, hrs, List.take_add_one, List.getElem?_map, hx, List.map_cons, hr2]; rfl
    · show (l1 ++ [s2]).length = _
      rw [List.length_append, hln]; rfl
    · intro w hw t ht
      rcases List.mem_append.1 ht with ht | ht
      · exact hkn w hw.right t ht
      · rw [List.mem_singleton] at ht; subst ht; exact hk2 w hw.left
  · have hi' : i = l.length := by have := of_decide_eq_false h; omega
    subst hi'
    (repeat refine RQ.thenExit ?_); refine RQ.blockHere ?_
    refine RQ.next ?_
    refine z_ ?_
    refine RQ.ret1 rfl (Res.tmp rfl) fun w' hm => ?_
    have hnd := hm.nd
    rw [List.map_cons, List.map_append, ← List.cons_append] at hnd
    have hrs' : l1.map SX.r = l.map SX.r := by rw [hrs]; exact List.take_of_length_le (by simp)
    have hkk : ∀ s ∈ l1, s.r.keys.length ≤ 1000000 ∧ s.r.used.length ≤ 1000000 := fun s hs => by
      have : s.r ∈ l.map SX.r := by rw [← hrs']; exact List.mem_map_of_mem hs
      obtain ⟨t, ht, hte⟩ := List.mem_map.1 this
      rw [← hte]; exact hlk t ht
    exact Turns.of (Lst := []) (Lr := []) (Y := CpY (l.map SX.r)) (V := fun y => .pointer (some ⟨y.1.1, 0, none⟩)) (L' := fun y => y.1.2.2.L ++ y.1.2.1) ⟨⟨b, pool, ⟨_, bb, l1, hown, (List.nodup_append.1 hnd).1, by omega, hkk, hkn⟩⟩, hrs'⟩ hm (by unfold StO.L; exact (perm_of fun f => by (simp only [List.map_append, List.map_cons, List.map_nil, List.sum_append, List.sum_cons, List.sum_nil] <;> omega)))
end Go.Proofs.Ytnhnihkpacibgaa
