/- Lemmas. -/
import Derived.Test.YtfoeakgnkfcbjaaGreatDoorPr10
set_option linter.unusedSimpArgs false
set_option linter.unusedVariables false
section
/- The reference's keys that sign once: Secret, MarkOf, bit, Sign, Public. -/
namespace Go.Proofs.YtfoeakgnkfcbjaaGreatDoor
open Go Go.Vc Go.Sha

theorem parts1' {w : World} {u : Value} {a : List Nat} (hu : SrcW w 1 u a.length (u8s a)) : Parts w [u] [a] :=
  ⟨rfl, fun i h h' => by
    match i, h with
    | 0, _ => exact hu⟩

end Go.Proofs.YtfoeakgnkfcbjaaGreatDoor

/- The reference's Public. -/
namespace Go.Proofs.YtfoeakgnkfcbjaaGreatDoor
open Go Go.Vc Go.Sha

end Go.Proofs.YtfoeakgnkfcbjaaGreatDoor
end
