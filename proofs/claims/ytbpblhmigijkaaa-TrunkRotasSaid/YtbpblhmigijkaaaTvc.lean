/- Plans of years: are some years too long; all years as one list. -/
import Derived.Test.YtbpblhmigijkaaaTk
import Derived.Test.YtbpblhmigijkaaaTvf
namespace Go.Proofs.Ytbpblhmigijkaaa
open Go.RowKit
set_option linter.unusedVariables false
set_option linter.unusedSimpArgs false
end Go.Proofs.Ytbpblhmigijkaaa
