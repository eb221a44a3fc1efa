/- hash.Of, hash.Two, hash.Zero. -/
import Derived.Test.YtgnjdpaenojfhaaSha5
import Derived.Test.YtgnjdpaenojfhaaDig0
import Derived.Test.YtgnjdpaenojfhaaVcM
set_option linter.unusedSimpArgs false
set_option linter.unusedVariables false
namespace Go.Proofs.Ytgnjdpaenojfhaa
open Go Go.Vc Go.Sha

/-- Slices of bytes, as cells. -/
def Parts (w : World) (vs : List Value) (ls : List (List Nat)) : Prop := vs.length = ls.length ∧ ∀ i (h : i < vs.length) (h' : i < ls.length), SrcW w 1 vs[i] ls[i].length (u8s ls[i])
theorem Parts.fr {w w' : World} {vs : List Value} {ls : List (List Nat)} (h : Parts w vs ls) (hf : Fr [] w w') : Parts w' vs ls := ⟨h.1, fun i h1 h2 => (h.2 i h1 h2).fr hf⟩

theorem u8s_le4 (n : Nat) : u8s (le4 n) = [.int .u8 (n % 256 : Nat), .int .u8 (n / 256 % 256 : Nat), .int .u8 (n / 65536 % 256 : Nat), .int .u8 (n / 16777216 % 256 : Nat)] := rfl


end Go.Proofs.Ytgnjdpaenojfhaa
