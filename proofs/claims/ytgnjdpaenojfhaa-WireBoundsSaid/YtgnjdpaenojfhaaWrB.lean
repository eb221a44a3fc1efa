/- wire: the writer. -/
import Derived.Test.YtgnjdpaenojfhaaWrA
set_option linter.unusedSimpArgs false
set_option linter.unusedVariables false
namespace Go.Vc
open Go Go.Sha
theorem RQ.end0 {P : Program} {n : Nat} {w0 : World} {S0 : List Nat} {E : Env} {L : Hp} {fn : Func} {R : Ending → World → Prop} (hr : fn.results = #[]) (h : ∀ w, Mem w0 S0 L w → R (.returned (.tuple #[])) w) : RQ n w0 S0 .normal (bodyPost P fn R) E L := by
  intro a w hs hm
  refine ⟨hs.defers, .tuple #[], ?_, h w hm⟩
  rw [results_eq, hr]; simp
/-- A writer: its bytes, its first error. -/
structure Wr (tW tB : TypeId) (wb : Nat) where
  v : Value
  bl : Hp
  bs : List Nat
  e : Int
  own : Own tB 1 v bs.length (u8s bs) bl
  nd : (wb :: bl.map (·.1)).Nodup
  hl : bs.length ≤ 131072
def Wr.L {tW tB : TypeId} {wb : Nat} (x : Wr tW tB wb) : Hp := (wb, .cells #[x.v, .int .i64 x.e] tW (0, 0)) :: x.bl
/-- What is written, and how it stands. -/
def putW (bs : List Nat) (e : Int) (a : List Nat) : List Nat × Int := if e = 0 then (if (a.length : Int) > 131072 - bs.length then (bs, 3) else (bs ++ a, 0)) else (bs, e)
end Go.Vc
namespace Go.Proofs.Ytgnjdpaenojfhaa
attribute [local irreducible] Go.Vc.Run Go.Vc.RC Go.Vc.RQ Go.Vc.DR Go.Vc.DOp
open Go Go.Vc Go.Sha
abbrev WrP (wb : Nat) := Wr 49 5 wb
abbrev PutY (wb : Nat) (r : List Nat × Int) := {y : WrP wb // (y.bs, y.e) = r}
theorem put_of {wb : Nat} {ap Lst L1 Lr : Hp} {w w' : World} {r : List Nat × Int} (y : WrP wb) (hr : (y.bs, y.e) = r) (hm : Mem w (Lst.map (·.1)) L1 w') (hp : L1.Perm ((y.L ++ ap) ++ Lr)) :
    ∃ y' : PutY wb r, Ending.returned (.tuple #[]) = .returned (.tuple #[]) ∧ Fr (Lst.map (·.1)) w w' ∧ Has (y'.1.L ++ ap) w' ∧ (∀ p ∈ y'.1.L ++ ap, w.heap.size ≤ p.1 ∨ p.1 ∈ Lst.map (·.1)) ∧ ((y'.1.L ++ ap).map (·.1)).Nodup :=
  Turns.of (Y := PutY wb r) (V := fun _ => .tuple #[]) (L' := fun y => y.1.L ++ ap) ⟨y, hr⟩ hm hp
set_option maxRecDepth 10000 in set_option maxHeartbeats 4000000 in
theorem put_calls {wb : Nat} (x : WrP wb) (a : List Nat) {u : Value} {ap : Hp} (hal : a.length ≤ 1000000) (w : World) (hsrc : ∀ L : Hp, (∀ p ∈ ap, p ∈ L) → Src w ((x.L ++ ap).map (·.1)) L 1 u a.length (u8s a)) (hush : ∃ ua uc, u = .slice ua a.length uc)
    (hw : Has (x.L ++ ap) w) (hnd : ((x.L ++ ap).map (·.1)).Nodup) :
    Turns Try.prog 33 [.pointer (some ⟨wb, 0, none⟩), u] w (x.L ++ ap) (Y := PutY wb (putW x.bs x.e a)) (fun _ => .tuple #[]) (fun y => y.1.L ++ ap) := by
  refine enter Try.func33 rfl (Mem.init (S0 := (x.L ++ ap).map (·.1)) hw (fun p hp => List.mem_map_of_mem hp) hnd) rfl ?_
  obtain ⟨va, vc, hv, hvc⟩ := x.own.shape
  obtain ⟨ua, uc, rfl⟩ := hush
  have hown := x.own
  rw [hv] at hown
  have hl := x.hl
  have hcells : x.L ++ ap = (wb, Obj.cells #[.slice va x.bs.length vc, .int .i64 x.e] 49 (0, 0)) :: (x.bl ++ ap) := by unfold Wr.L; rw [hv]; rfl
  by_cases he : x.e = 0
  · rw [hcells, he] at hsrc ⊢
    refine z_ ?_
    by_cases hgt : (a.length : Int) > 131072 - x.bs.length
    · rw [show putW x.bs 0 a = (x.bs, 3) from by unfold putW; rw [if_pos rfl, if_pos hgt]]
      refine z_ ?_
      refine Run.op1 (os1 #[Value.slice va x.bs.length vc, .int .i64 3]) (fun _ => ?_)
      refine z_ ?_
      exact RQ.end0 rfl fun w' hm => put_of ⟨.slice va x.bs.length vc, x.bl, x.bs, 3, hown, x.nd, hl⟩ rfl hm (Lr := []) (by unfold Wr.L; exact (perm_of fun f => by (simp only [List.map_append, List.map_cons, List.map_nil, List.sum_append, List.sum_cons, List.sum_nil] <;> omega)))
    · rw [show putW x.bs 0 a = (x.bs ++ a, 0) from by unfold putW; rw [if_pos rfl, if_neg hgt]]
      refine z_ ?_
      refine Run.op1 (OpTo.append (L1 := (wb, Obj.cells #[Value.slice va x.bs.length vc, .int .i64 0] 49 (0, 0)) :: ap) tabOk hown (hsrc _ (fun p hp => List.mem_cons_of_mem _ (List.mem_append_right _ hp))) rfl rfl rfl rfl rfl rfl rfl rfl rfl (perm_of fun f => by (simp only [List.map_append, List.map_cons, List.map_nil, List.sum_append, List.sum_cons, List.sum_nil] <;> omega)) (u8s_one _) (by unfold maxLen; omega) (by simp only [ti5]; omega)) ?_
      rintro ⟨⟨v9, bl9⟩, hown9⟩
      dsimp only at hown9 ⊢
      rw [← u8s_app] at hown9
      obtain ⟨a9, c9, rfl, hc9⟩ := hown9.shape
      refine z_ ?_
      refine Run.op1 (os1 #[Value.slice a9 (x.bs.length + a.length) c9, .int .i64 0]) (fun _ => ?_)
      refine z_ ?_
      refine RQ.end0 rfl fun w' hm => ?_
      have hnd' := hm.nd
      refine put_of ⟨.slice a9 (x.bs.length + a.length) c9, bl9, x.bs ++ a, 0, by rw [List.length_append]; exact hown9, ?_, by rw [List.length_append]; omega⟩ rfl hm (Lr := []) (by unfold Wr.L; exact (perm_of fun f => by (simp only [List.map_append, List.map_cons, List.map_nil, List.sum_append, List.sum_cons, List.sum_nil] <;> omega)))
      rw [List.map_cons, List.map_append, ← List.cons_append] at hnd'
      exact (List.nodup_append.1 hnd').1
  · rw [show putW x.bs x.e a = (x.bs, x.e) from if_neg he]
    rw [hcells]
    refine z_ ?_
    exact RQ.end0 rfl fun w' hm => put_of ⟨.slice va x.bs.length vc, x.bl, x.bs, x.e, hown, x.nd, hl⟩ rfl hm (Lr := []) (by unfold Wr.L; exact (perm_of fun f => by (simp only [List.map_append, List.map_cons, List.map_nil, List.sum_append, List.sum_cons, List.sum_nil] <;> omega)))
end Go.Proofs.Ytgnjdpaenojfhaa
