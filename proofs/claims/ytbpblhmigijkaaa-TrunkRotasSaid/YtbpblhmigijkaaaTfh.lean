/- TrunkHeals: plain laws. -/
import Derived.Test.YtbpblhmigijkaaaTfi
import Derived.Test.YtbpblhmigijkaaaM3
namespace Go.Proofs.Ytbpblhmigijkaaa
open Go.RowKit
set_option linter.unusedVariables false
end Go.Proofs.Ytbpblhmigijkaaa
