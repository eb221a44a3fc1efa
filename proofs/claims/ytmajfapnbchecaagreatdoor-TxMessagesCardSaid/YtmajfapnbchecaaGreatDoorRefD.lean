/- The reference's Publics, Tree. -/
import Derived.Test.YtmajfapnbchecaaGreatDoorRefB
import Derived.Test.YtmajfapnbchecaaGreatDoorMerR
set_option linter.unusedSimpArgs false
set_option linter.unusedVariables false
namespace Go.Sha
/-- The first i keys of a seed's tree. -/
def pubs (seed : List Nat) (i : Nat) : List (List Nat) := (List.range i).map (pubKey seed)
theorem pubs_len (seed : List Nat) (i : Nat) : (pubs seed i).length = i := by simp [pubs]
theorem pubs_succ (seed : List Nat) (i : Nat) : pubs seed (i + 1) = pubs seed i ++ [pubKey seed i] := by simp [pubs, List.range_succ]
theorem pubKey_8 (seed : List Nat) (i : Nat) : (pubKey seed i).length = 8 ∧ ∀ x ∈ pubKey seed i, x < 256 := ⟨digest_len _ _, digest_lt _ _⟩
theorem pubs_HL (seed : List Nat) (i : Nat) : HL (pubs seed i) := by
  intro h hh
  simp only [pubs, List.mem_map] at hh
  obtain ⟨k, _, rfl⟩ := hh
  exact pubKey_8 seed k
theorem pubs_at (seed : List Nat) (n i : Nat) (h : i < n) : (pubs seed n)[i]? = some (pubKey seed i) := by simp [pubs, h]
/-- A seed's root: chapter 8. -/
def treeOf (seed : List Nat) : List Nat := mroot (pubs seed 8)
theorem treeOf_root (seed : List Nat) : rootOf (pubs seed 8) = treeOf seed := by unfold rootOf treeOf; rw [if_pos (by rw [pubs_len]; decide)]
theorem treeOf_len (seed : List Nat) : (treeOf seed).length = 8 := mroot_len _
theorem treeOf_lt (seed : List Nat) : ∀ x ∈ treeOf seed, x < 256 := mroot_lt _
end Go.Sha
namespace Go.Proofs.YtmajfapnbchecaaGreatDoor
open Go Go.Vc Go.Sha

end Go.Proofs.YtmajfapnbchecaaGreatDoor
