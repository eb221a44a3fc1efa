/- wire: what is deferred. -/
import Derived.Test.YtgnjdpaenojfhaaWrK
import Derived.Tactics
import Derived.Tactics2
import Derived.Defers
import Derived.Recover
import Derived.Laws.Pointers
set_option linter.unusedSimpArgs false
set_option linter.unusedVariables false
namespace Go.Proofs.Ytgnjdpaenojfhaa
open Go Go.Vc Go.Sha
theorem catch_panicking (b2 b3 : Nat) (hne : b2 ≠ b3) (x y : Value) (u : TypeId) (pv : Value) (older : List PanicEntry) (w : World) (h2 : w.heap[b2]? = some (.cells #[x] 20 (0, 0))) (h3 : w.heap[b3]? = some (.cells #[y] 4 (0, 0))) :
    CallsD Try.prog 35 #[.pointer (some ⟨b2, 0, none⟩), .pointer (some ⟨b3, 0, none⟩)] (.panicking ({ v := .iface u pv, recovered := false } :: older)) w fun e u' w' =>
      e = .returned (.tuple #[]) ∧ u' = .panicking ({ v := .iface u pv, recovered := true } :: older) ∧ w' = (w.setRow b2 #[.iface u pv]).setRow b3 #[.bool false] := by
  refine callsD_of_wpS Try.func35 rfl fun c₀ cs hu => ?_
  have hc2 : w.cell? ⟨b2, 0, none⟩ = some x := by rw [cell_of_row w b2 0 _ _ _ h2]; rfl
  have hz2 := frozen_of_row w b2 0 _ _ h2
  have e1 := setCell_eq_setRow w b2 0 _ _ _ (.iface u pv) h2
  have hb3 : (w.setCell ⟨b2, 0, none⟩ (.iface u pv)).heap[b3]? = some (.cells #[y] 4 (0, 0)) := by rw [e1, setRow_other w b2 b3 _ (fun h => hne h.symm)]; exact h3
  have hc3 : (w.setCell ⟨b2, 0, none⟩ (.iface u pv)).cell? ⟨b3, 0, none⟩ = some y := by rw [cell_of_row _ b3 0 _ _ _ hb3]; rfl
  have hz3 := frozen_of_row _ b3 0 _ _ h3
  have e2 := setCell_eq_setRow (w.setCell ⟨b2, 0, none⟩ (.iface u pv)) b3 0 _ _ _ (.bool false) hb3
  apply wpS_seq
  apply wpS_region
  simp [wpOpsS, go_sem, recoverD, hu, Try.ntmps35, Exit.thenS]
  apply wpS_seq
  apply wpS_region
  simp [wpOpsS, go_sem, Exit.thenS]
  refine wpS_cond (t := true) (by simp [Act.eval]) ?_
  simp only [if_true]
  apply wpS_region
  simp [wpOpsS, hc2, hz2, hc3, hz3, go_sem, bodyPostS, results, Try.results35]
  rw [e2, e1]; rfl
theorem catch_idle (b2 b3 : Nat) (w : World) :
    CallsD Try.prog 35 #[.pointer (some ⟨b2, 0, none⟩), .pointer (some ⟨b3, 0, none⟩)] .returning w fun e u' w' => e = .returned (.tuple #[]) ∧ u' = .returning ∧ w' = w := by
  refine callsD_of_wpS Try.func35 rfl fun c₀ cs hu => ?_
  apply wpS_seq
  apply wpS_region
  simp [wpOpsS, go_sem, recoverD, hu, Try.ntmps35, Exit.thenS]
  apply wpS_seq
  apply wpS_region
  simp [wpOpsS, go_sem, Exit.thenS]
  refine wpS_cond (t := false) (by simp [Act.eval]) ?_
  simp only [Bool.false_eq_true, if_false]
  refine wpS_of_wp (wp_skip ?_)
  cases c₀
  simp_all [bodyPostS, results, Try.results35]
end Go.Proofs.Ytgnjdpaenojfhaa
