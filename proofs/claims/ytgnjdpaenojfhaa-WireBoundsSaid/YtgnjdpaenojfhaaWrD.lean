/- wire: the writer's end. -/
import Derived.Test.YtgnjdpaenojfhaaWrC
import Derived.Test.YtgnjdpaenojfhaaSha5
set_option linter.unusedSimpArgs false
set_option linter.unusedVariables false
namespace Go.Proofs.Ytgnjdpaenojfhaa
attribute [local irreducible] Go.Vc.Run Go.Vc.RC Go.Vc.RQ Go.Vc.DR Go.Vc.DOp
open Go Go.Vc Go.Sha
/-- What a writer hands out. -/
def endW (bs : List Nat) (e : Int) : List Nat := if e = 0 then bs else []
abbrev EndY (bs : List Nat) (e : Int) := {p : Value × Hp // Own 5 1 p.1 (endW bs e).length (u8s (endW bs e)) p.2}
set_option maxRecDepth 10000 in set_option maxHeartbeats 4000000 in
theorem WEnd_calls {wb : Nat} (x : WrP wb) (w : World) (hw : Has x.L w) :
    Turns Try.prog 27 [.pointer (some ⟨wb, 0, none⟩)] w [] (Y := EndY x.bs x.e) (fun y => .tuple #[y.1.1, .int .i64 x.e]) (fun y => y.1.2) := by
  refine enter Try.func27 rfl (Mem.nil w []) rfl ?_
  have hcell := hw _ (List.mem_cons_self)
  have hc0 : w.cell? ⟨wb, 0, none⟩ = some x.v := by rw [cell_of_row w wb 0 _ _ _ hcell]; rfl
  have hc1 : w.cell? ⟨wb, 1, none⟩ = some (.int .i64 x.e) := by rw [cell_of_row w wb 1 _ _ _ hcell]; rfl
  have hsrc := x.own.srcW (fun q hq => hw q (List.mem_cons_of_mem _ hq))
  have hl := x.hl
  refine z_ ?_
  refine Run.a (vlo hc1) ?_
  by_cases he : x.e = 0
  · rw [he]
    refine z_ ?_
    refine Run.a (vlo hc0) ?_
    refine Run.op1 (OpTo.callMk Try.func32 rfl rfl rfl rfl rfl rfl (fun w' hm => Clone_calls x.v x.bs.length x.bs w' (hsrc.mem hm) (by omega))) ?_
    rintro ⟨⟨v7, bl7⟩, hown⟩
    dsimp only at hown ⊢
    refine z_ ?_
    exact RQ.ret2 rfl (Res.tmp rfl) (Res.tmp rfl) fun w' hm => Turns.of (Y := EndY x.bs 0) (V := fun y => .tuple #[y.1.1, .int .i64 0]) (L' := fun y => y.1.2) (Lst := []) ⟨(v7, bl7), hown⟩ hm (Lr := []) (perm_of fun f => by (simp only [List.map_append, List.map_cons, List.map_nil, List.sum_append, List.sum_cons, List.sum_nil] <;> omega))
  · refine z_ ?_
    (repeat refine RC.seq ?_); refine RC.drawS mixed (N := 6) rfl ?_
    refine dt 0 ?_
    refine dt 1 ?_
    refine dt 2 ?_
    refine DR.t 3 rfl (vlo hc1) ?_
    refine dt 4 ?_
    refine dt 5 ?_
    refine DR.done (by kernel_rfl) ?_
    refine z_ ?_
    have hn : endW x.bs x.e = [] := if_neg he
    exact RQ.ret2 rfl (Res.tmp rfl) (Res.tmp rfl) fun w' hm => Turns.of (Y := EndY x.bs x.e) (V := fun y => .tuple #[y.1.1, .int .i64 x.e]) (L' := fun y => y.1.2) (Lst := []) ⟨(.slice none 0 0, []), by rw [hn]; exact Own.nil⟩ hm (Lr := []) (perm_of fun f => by (simp only [List.map_append, List.map_cons, List.map_nil, List.sum_append, List.sum_cons, List.sum_nil] <;> omega))
end Go.Proofs.Ytgnjdpaenojfhaa
