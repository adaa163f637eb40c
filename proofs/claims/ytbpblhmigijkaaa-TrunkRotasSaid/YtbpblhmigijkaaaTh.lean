/- Trunk: more arguments opened. -/
import Derived.Test.YtbpblhmigijkaaaTg
import Derived.Test.YtbpblhmigijkaaaA28
namespace Go.Proofs.Ytbpblhmigijkaaa
open Go.RowKit Go.ChangeShapes Go.WideShapes Go.Deep
set_option linter.unusedVariables false
end Go.Proofs.Ytbpblhmigijkaaa
