/- hash.Zero. -/
import Derived.Test.YtgnjdpaenojfhaaDigT
set_option linter.unusedSimpArgs false
set_option linter.unusedVariables false
namespace Go.Proofs.Ytgnjdpaenojfhaa
open Go Go.Vc Go.Sha

end Go.Proofs.Ytgnjdpaenojfhaa
