/- An abstract walk: maps from ints to bools; bytes. No program is in sight here. -/
import Derived.Test.YtbpblhmigijkaaaA25
import Derived.Maps.Own
import Derived.Maps.OwnOps
import Derived.Maps.OwnSet
import Derived.DeepKeys4
import Derived.Maps.Views
namespace Go.Proofs.Ytbpblhmigijkaaa
open Go.RowKit
open Go.Maps (Keyed)
set_option linter.unusedVariables false
end Go.Proofs.Ytbpblhmigijkaaa
