/- Plans of years: plain laws. -/
import Derived.Test.YtbpblhmigijkaaaTv
import Derived.Test.YtbpblhmigijkaaaA31
namespace Go.Proofs.Ytbpblhmigijkaaa
open Go.RowKit
set_option linter.unusedVariables false
theorem drill_start {t : TreeV} {r : RuleV} {y : Int} {l : List Spt} (h : startE t r y = 0) (hl : spotsB l = true) (hd : drillB t y l = true) (hy : y + 1 ≤ 9999) : startE (drillV t y l) r (y + 1) = 0 := by
 obtain ⟨k1, k2, k3⟩ := startE_0.1 h
 exact startE_0.2 ⟨drill_ok k1 k3 hl hd, k2, by show t.year ≤ y + 1 ∧ _; omega⟩
theorem drill_len {t : TreeV} {y : Int} {l : List Spt} (h : drillB t y l = true) : (drillV t y l).holes.length ≤ 60 := by
 have := of_decide_eq_true h
 omega
end Go.Proofs.Ytbpblhmigijkaaa
