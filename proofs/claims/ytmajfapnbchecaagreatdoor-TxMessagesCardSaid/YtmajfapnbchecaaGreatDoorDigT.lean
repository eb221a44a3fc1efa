/- hash.Two; bytes by their place. -/
import Derived.Test.YtmajfapnbchecaaGreatDoorDig1
import Derived.Test.YtmajfapnbchecaaGreatDoorVcM
set_option linter.unusedSimpArgs false
set_option linter.unusedVariables false
namespace Go.Proofs.YtmajfapnbchecaaGreatDoor
open Go Go.Vc Go.Sha

theorem u8s_arr (l : List Nat) (i : Nat) (h : i < l.length) : (u8s l).toArray[i]? = some (.int .u8 (l.getD i 0)) := by
  rw [List.getElem?_toArray]; exact u8s_at l i h
theorem getD_lt {l : List Nat} (h : ∀ x ∈ l, x < 256) (i : Nat) : l.getD i 0 < 256 := by
  rw [List.getD_eq_getElem?_getD]
  cases e : l[i]? with
  | none => decide
  | some x => exact h x (List.mem_of_getElem? e)

theorem parts2 {w : World} {u v : Value} {a b : List Nat} (hu : SrcW w 1 u a.length (u8s a)) (hv : SrcW w 1 v b.length (u8s b)) : Parts w [u, v] [a, b] :=
  ⟨rfl, fun i h h' => by
    match i, h with
    | 0, _ => exact hu
    | 1, _ => exact hv⟩

end Go.Proofs.YtmajfapnbchecaaGreatDoor
