import Derived.Test.YtmajfapnbchecaaGreatDoorRefT
import Derived.Test.YtmajfapnbchecaaGreatDoorLam0
import Derived.Test.YtmajfapnbchecaaGreatDoorVcN
set_option linter.unusedSimpArgs false
set_option linter.unusedVariables false
/- The reference's keys that sign once: Secret, MarkOf, bit, Sign, Public. -/
namespace Go.Proofs.YtmajfapnbchecaaGreatDoor
open Go Go.Vc Go.Sha

theorem parts1' {w : World} {u : Value} {a : List Nat} (hu : SrcW w 1 u a.length (u8s a)) : Parts w [u] [a] :=
  ⟨rfl, fun i h h' => by
    match i, h with
    | 0, _ => exact hu⟩

theorem zrow (f : Nat → List Nat) (c i n : Nat) (hf : ∀ i, (f i).length = c) (hi : i < n) : rowOf f i ++ List.replicate ((n - i) * c) 0 = rowOf f i ++ List.replicate (f i).length 0 ++ List.replicate ((n - (i + 1)) * c) 0 := by
  rw [List.append_assoc, List.replicate_append_replicate, hf]
  congr 2
  rw [show n - i = n - (i + 1) + 1 by omega, Nat.succ_mul, Nat.add_comm]

end Go.Proofs.YtmajfapnbchecaaGreatDoor

/- The reference's Public. -/
namespace Go.Proofs.YtmajfapnbchecaaGreatDoor
open Go Go.Vc Go.Sha

end Go.Proofs.YtmajfapnbchecaaGreatDoor
