/- sparse: awake. -/
import Derived.Test.YtfhdfpejjgmdcaaGreatDoorSpM
set_option linter.unusedSimpArgs false
set_option linter.unusedVariables false
namespace Go.Proofs.YtfhdfpejjgmdcaaGreatDoor
attribute [local irreducible] Go.Vc.Run Go.Vc.RC Go.Vc.RQ Go.Vc.DR Go.Vc.DOp
open Go Go.Vc Go.Sha
theorem fresh_ids {w w' : World} {L L1 : Hp} (hK : Laid w) (hm : Mem w [] L w') (hs : ∀ p ∈ L1, p ∈ L) : 0 ∉ L1.map (·.1) := by
  intro h
  obtain ⟨p, hp, e⟩ := List.mem_map.1 h
  have hgl : 0 < w.heap.size := World.block_lt_of_cell? w ⟨0, 0, none⟩ (hK 0 (by decide))
  rcases hm.own p (hs p hp) with h1 | h1
  · rw [e] at h1; omega
  · cases h1
def X1 : List Nat := [1, 0, 0, 0, 0, 0, 0, 0]
theorem X1_8 : H8 X1 := ⟨rfl, by decide⟩
theorem prfT_lt {F : Nat → List Nat} (hF : okF F) (i : Int) : ∀ x ∈ prfT (nodeF F) i, x < 256 := by
  unfold prfT
  split
  · exact rowOf_lt (fun k => (nodeF_8 hF k _).2) 16
  · intro x hx; rw [List.eq_of_mem_replicate hx]; decide
end Go.Proofs.YtfhdfpejjgmdcaaGreatDoor
