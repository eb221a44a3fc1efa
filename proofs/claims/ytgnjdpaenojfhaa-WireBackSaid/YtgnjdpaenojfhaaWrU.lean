/- wire: WireBounds. -/
import Derived.Test.YtgnjdpaenojfhaaWrT
set_option linter.unusedSimpArgs false
set_option linter.unusedVariables false
namespace Go.Proofs.Ytgnjdpaenojfhaa
attribute [local irreducible] Go.Vc.Run Go.Vc.RC Go.Vc.RQ Go.Vc.DR Go.Vc.DOp
open Go Go.Vc Go.Sha
set_option maxRecDepth 10000 in set_option maxHeartbeats 4000000 in
theorem ReadNil_calls (a : Option Addr) (n c : Nat) (hn : n ≤ 131072) (hc : n ≤ c) (w : World) : Turns Try.prog 12 [.slice a n c, .nilFunc] w [] (Y := Unit) (fun _ => .int .i64 (readE none n 0)) (fun _ => []) :=
  Read_calls a n c hn hc .nilFunc rfl w [] (fun _ h => by cases h) List.nodup_nil (o := fun _ => none) (k := fun _ => 0) (fun _ => Nat.zero_le _) (fun _ _ h => by cases h) (fun rb bf br w' _ _ _ _ _ _ _ h1 _ hA hN hbf _ => Read1_nil bf br w' _ hA hN hbf h1)
theorem stepW_num {s : List Nat × Int} {p : PtD} (h8 : p.k ≠ 8) (h9 : p.k ≠ 9) : stepW s p = numW s.1 s.2 p.n p.k := by unfold stepW; rw [if_neg h8, if_neg h9]
set_option maxRecDepth 10000 in set_option maxHeartbeats 4000000 in
theorem WireBounds_calls (w : World) : Gives Try.prog 4 [] (.bool true) w := by
  refine enter Try.func4 rfl (Mem.nil w []) rfl ?_
  refine z_ ?_
  refine Run.op1 (OpTo.cv Try.func8 (fun w' _ => wr_awake_calls w')) (fun _ => ?_)
  refine z_ ?_
  refine Run.nw (nmk (m := 131068) (.int .u8 0) (hm := by decide) (hb := by decide)) ?_
  intro b1
  obtain ⟨Z, hZ⟩ : ∃ Z : List Nat, Z = List.replicate 131068 0 := ⟨_, rfl⟩
  have hZl : Z.length = 131068 := by rw [hZ, List.length_replicate]
  have hZb : ∀ x ∈ Z, x < 256 := fun x hx => by rw [hZ] at hx; rw [List.eq_of_mem_replicate hx]; decide
  rw [show List.replicate 131068 (Value.int .u8 0) = u8s Z from by rw [hZ]; unfold u8s; rw [List.map_replicate]; exact congrArg (List.replicate 131068) rfl]
  clear hZ
  let p1 : PtD := ⟨9, 0, [0, 0, 0, 0, 0, 0, 0, 0], Z, .slice (some ⟨b1, 0, none⟩) 131068 131068, rfl, by decide, hZb, by decide, by decide, by rw [hZl]; decide⟩
  let p2 : PtD := ⟨1, 0, [0, 0, 0, 0, 0, 0, 0, 0], [], .slice none 0 0, rfl, by decide, by decide, by decide, by decide, by decide⟩
  have hl4 : (le Z.length 4 ++ Z).length = 131072 := by rw [List.length_append, le_len, hZl]
  have hW1 : writeW [p1] = (le Z.length 4 ++ Z, 0) := by
    show putW [] 0 (le Z.length 4 ++ Z) = _
    unfold putW
    rw [if_pos rfl, hl4, if_neg (by simp), List.nil_append]
  have hW2 : writeW [p1, p2] = (le Z.length 4 ++ Z, 3) := by
    show stepW (writeW [p1]) p2 = _
    rw [hW1, stepW_num (show (1 : Int) ≠ 8 by decide) (show (1 : Int) ≠ 9 by decide)]
    unfold numW
    rw [if_pos rfl, if_neg (by decide)]
    unfold putW
    rw [if_pos rfl, hl4, if_pos (by decide)]
  refine z_ ?_
  refine Run.a (vbs p1.c.toArray) ?_
  refine Run.nw (nbsl (rws PtD.c [p1]).toArray (by kernel_rfl)) ?_
  intro b2
  have hz1 : ([(b2, Obj.cells (rws PtD.c [p1]).toArray 31 (0, 0)), (b1, Obj.cells (u8s Z).toArray 5 (0, 0))] : Hp).Perm ([] ++ [(b2, Obj.cells (rws PtD.c [p1]).toArray 31 (0, 0)), (b1, Obj.cells (u8s Z).toArray 5 (0, 0))]) := List.Perm.refl _
  have hq1 : ∀ p ∈ [p1], p.b.length ≤ 900000 := by intro p hp; rw [List.mem_singleton] at hp; subst hp; show Z.length ≤ _; omega
  have hq2 : ∀ p ∈ [p1, p2], p.b.length ≤ 900000 := by
    intro p hp
    rcases List.mem_cons.1 hp with rfl | hp
    · show Z.length ≤ _; omega
    · rw [List.mem_singleton] at hp; subst hp; exact Nat.zero_le _
  have hzs : (u8s Z).length = 131068 * 1 := by rw [u8s_len, hZl]
  have hwr1 := fun w' h1 h2 => write_calls [p1] (show 1 ≤ 9223372036854775807 by decide) hq1 (.slice (some ⟨b2, 0, none⟩) 1 1) w' h1 h2
  rw [hW1] at hwr1
  have hin1 : ∀ {L : Hp} (w' : World), (b1, Obj.cells (u8s Z).toArray 5 (0, 0)) ∈ L → Mem w [] L w' → PtIn w' [p1] := by
    intro L w' hmem hm p hp
    rw [List.mem_singleton] at hp
    subst hp
    show SrcW w' 1 (.slice (some ⟨b1, 0, none⟩) 131068 131068) Z.length (u8s Z)
    rw [hZl]
    exact SrcW.row (cs := u8s Z) hm hmem hzs (Nat.le_refl _)
  refine Run.op1 (OpTo.callT Try.func11 hz1 (fun w' hm => hwr1 w' (SrcW.row hm m0 rfl (Nat.le_refl _)) (hin1 w' m1 hm))) ?_
  rintro ⟨⟨v1, bl1⟩, hown1⟩
  dsimp only at hown1 ⊢
  have e1 : endW (le Z.length 4 ++ Z) 0 = le Z.length 4 ++ Z := if_pos rfl
  rw [e1, hl4] at hown1
  obtain ⟨a1, c1, rfl, hc1⟩ := hown1.shape
  refine z_ ?_
  refine Run.a (vbs p1.c.toArray) ?_
  refine Run.a (vbs p2.c.toArray) ?_
  refine Run.nw (nbsl (rws PtD.c [p1, p2]).toArray (by kernel_rfl)) ?_
  intro b3
  have hz2 : ((b3, Obj.cells (rws PtD.c [p1, p2]).toArray 31 (0, 0)) :: (bl1 ++ [(b2, Obj.cells (rws PtD.c [p1]).toArray 31 (0, 0)), (b1, Obj.cells (u8s Z).toArray 5 (0, 0))]) : Hp).Perm ([] ++ ((b3, Obj.cells (rws PtD.c [p1, p2]).toArray 31 (0, 0)) :: (bl1 ++ [(b2, Obj.cells (rws PtD.c [p1]).toArray 31 (0, 0)), (b1, Obj.cells (u8s Z).toArray 5 (0, 0))]))) := List.Perm.refl _
  have hwr2 := fun w' h1 h2 => write_calls [p1, p2] (show 2 ≤ 9223372036854775807 by decide) hq2 (.slice (some ⟨b3, 0, none⟩) 2 2) w' h1 h2
  rw [hW2] at hwr2
  have hin2 : ∀ {L : Hp} (w' : World), (b1, Obj.cells (u8s Z).toArray 5 (0, 0)) ∈ L → Mem w [] L w' → PtIn w' [p1, p2] := by
    intro L w' hmem hm p hp
    rcases List.mem_cons.1 hp with rfl | hp
    · exact hin1 w' hmem hm _ (List.mem_singleton.2 rfl)
    · rw [List.mem_singleton] at hp
      subst hp
      exact .nil
  refine Run.op1 (OpTo.callT Try.func11 hz2 (fun w' hm => hwr2 w' (SrcW.row hm m0 rfl (Nat.le_refl _)) (hin2 w' (by repeat (first | exact List.mem_cons_self | apply List.mem_cons_of_mem | apply List.mem_append_right)) hm))) ?_
  rintro ⟨⟨v2, bl2⟩, hown2⟩
  dsimp only at hown2 ⊢
  refine z_ ?_
  refine Run.nw nal ?_
  intro b6
  refine z_ ?_
  refine Run.op1 (os1 #[.bool false]) (fun _ => ?_)
  refine z_ ?_
  refine Run.nw (nmk (m := 131073) (.int .u8 0) (hm := by decide) (hb := by decide)) ?_
  intro b7
  obtain ⟨ZZ, hZZ⟩ : ∃ ZZ : List Value, ZZ = List.replicate 131073 (Value.int .u8 0) := ⟨_, rfl⟩
  rw [← hZZ]
  clear hZZ
  refine Run.a (Val.mkF (us := []) rfl rfl rfl) ?_
  refine Run.op1 (OpTo.cv Try.func12 (fun w' _ => Read_long (some ⟨b7, 0, none⟩) 131073 131073 (by decide) (by decide) _ w')) (fun _ => ?_)
  refine z_ ?_
  refine Run.op1 (OpTo.callT (Lr := (b7, Obj.cells ZZ.toArray 5 (0, 0)) :: (b6, Obj.cells #[.bool false] 4 (0, 0)) :: (bl2 ++ ((b3, Obj.cells (rws PtD.c [p1, p2]).toArray 31 (0, 0)) :: (bl1 ++ [(b2, Obj.cells (rws PtD.c [p1]).toArray 31 (0, 0)), (b1, Obj.cells (u8s Z).toArray 5 (0, 0))])))) Try.func12 (List.Perm.refl _) (fun w' _ => ReadNil_calls none 0 0 (by decide) (by decide) w')) ?_
  intro _
  refine z_ ?_
  refine Run.nw (nbsl #[.int .u8 1] (by kernel_rfl)) ?_
  intro b8
  refine Run.op1 (OpTo.callT (Lr := (b8, Obj.cells #[.int .u8 1] 5 (0, 0)) :: ([] ++ (b7, Obj.cells ZZ.toArray 5 (0, 0)) :: (b6, Obj.cells #[.bool false] 4 (0, 0)) :: (bl2 ++ ((b3, Obj.cells (rws PtD.c [p1, p2]).toArray 31 (0, 0)) :: (bl1 ++ [(b2, Obj.cells (rws PtD.c [p1]).toArray 31 (0, 0)), (b1, Obj.cells (u8s Z).toArray 5 (0, 0))]))))) Try.func12 (List.Perm.refl _) (fun w' _ => ReadNil_calls (some ⟨b8, 0, none⟩) 1 1 (by decide) (by decide) w')) ?_
  intro _
  refine z_ ?_
  exact RQ.ret1 rfl (Res.tmp rfl) fun w' hm => ⟨rfl, hm.fr⟩
end Go.Proofs.Ytgnjdpaenojfhaa
