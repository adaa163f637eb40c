/-
  No cell of these rows narrows 'for every input' (looked for: loops, veiled, ifaces, maps, wideKeys, modest, calm, conditions, laid).
  DERIVED. THE GIVEN ROWS OF THIS SEAT. 11 by the template 'for every input the law returns true; each argument reads behind the call as it read before'; 0 by the template 'total and deterministic' (their statements: YtepibjfmeibgcaaTotals.lean).
  GIVEN WITH THE SEED: the statements are not yours to turn. If you find one false, say at which input.
  Laid BY PROGRAM, IN A SANDBOX (cutbox-rows.mjs): the forced cells as the released guide's own fill.sh prints them over the translation f0d8e9a0d54e5f2a… (all of the seat's roots in one cut). By AI agents, Wed Nov 11 2026. No macro, syntax, notation, axiom, sorry.
-/
import Derived.Test.YtepibjfmeibgcaaChecked
import GoSem.Claim
import GoSem.ClaimJoined
import GoSem.ClaimMapViews
import Derived.JoinedTies
import Derived.KernelRfl
namespace Go.Proofs.Ytepibjfmeibgcaa
/- THE CELL 'sum', in the pinned program and in every row, IS THE sha256 OF THE DUMP (.gsa) THAT YtepibjfmeibgcaaProg.lean LOADS. Nothing in Lean hashes anything: it is a label: what it is worth is what the hold of that sum in a sandbox is worth. -/
noncomputable def Try.pinned : Pinned := { name := "ytepibjfmeibgcaa", sum := "f0d8e9a0d54e5f2a034de5ffbefcbe56eff010b0b0a6a82b59f6fdea6b95b408", checked := Try.checked }
namespace Rows
def none {H : Type} : Left H := { results := [], args := [] }

/-- 'spilelaw03.LinePlans': WHATEVER THE INPUT: true; the input reads as it did. -/
def linePlansSpec : ChangeSpec := { name := "linePlans", fn := fun _ => fun
  | [d1, d2, d3] => { results := [.lit (.bool true)], args := [d1, d2, d3] }
  | _ => none }
def linePlansRow : OpenClaim := { program := "ytepibjfmeibgcaa", sum := "f0d8e9a0d54e5f2a034de5ffbefcbe56eff010b0b0a6a82b59f6fdea6b95b408", func := "spile/spilelaw03.LinePlans", spec := "linePlans", unfollowed := true, recurses := true, plainKeys := false, apart := false }
def LinePlansSaid : Prop := linePlansRow.holds Try.pinned (OpenSpec.ofChange linePlansSpec)

/-- ITS FALSE NEIGHBOUR: 'it returns false'. Refute it at one input. -/
def linePlansWrong : ChangeSpec := { name := "linePlans", fn := fun _ => fun
  | [d1, d2, d3] => { results := [.lit (.bool false)], args := [d1, d2, d3] }
  | _ => none }
def LinePlansWrongFalsely : Prop := linePlansRow.holds Try.pinned (OpenSpec.ofChange linePlansWrong)

/-- 'spilelaw03.LineArrives': WHATEVER THE INPUT: true; the input reads as it did. -/
def lineArrivesSpec : ChangeSpec := { name := "lineArrives", fn := fun _ => fun
  | [d1, d2, d3] => { results := [.lit (.bool true)], args := [d1, d2, d3] }
  | _ => none }
def lineArrivesRow : OpenClaim := { program := "ytepibjfmeibgcaa", sum := "f0d8e9a0d54e5f2a034de5ffbefcbe56eff010b0b0a6a82b59f6fdea6b95b408", func := "spile/spilelaw03.LineArrives", spec := "lineArrives", unfollowed := true, recurses := true, plainKeys := false, apart := false }
def LineArrivesSaid : Prop := lineArrivesRow.holds Try.pinned (OpenSpec.ofChange lineArrivesSpec)

/-- ITS FALSE NEIGHBOUR: 'it returns false'. Refute it at one input. -/
def lineArrivesWrong : ChangeSpec := { name := "lineArrives", fn := fun _ => fun
  | [d1, d2, d3] => { results := [.lit (.bool false)], args := [d1, d2, d3] }
  | _ => none }
def LineArrivesWrongFalsely : Prop := lineArrivesRow.holds Try.pinned (OpenSpec.ofChange lineArrivesWrong)

/-- 'spilelaw03.LineCheapest': WHATEVER THE INPUT: true; the input reads as it did. -/
def lineCheapestSpec : ChangeSpec := { name := "lineCheapest", fn := fun _ => fun
  | [d1, d2, d3] => { results := [.lit (.bool true)], args := [d1, d2, d3] }
  | _ => none }
def lineCheapestRow : OpenClaim := { program := "ytepibjfmeibgcaa", sum := "f0d8e9a0d54e5f2a034de5ffbefcbe56eff010b0b0a6a82b59f6fdea6b95b408", func := "spile/spilelaw03.LineCheapest", spec := "lineCheapest", unfollowed := true, recurses := true, plainKeys := false, apart := false }
def LineCheapestSaid : Prop := lineCheapestRow.holds Try.pinned (OpenSpec.ofChange lineCheapestSpec)

/-- ITS FALSE NEIGHBOUR: 'it returns false'. Refute it at one input. -/
def lineCheapestWrong : ChangeSpec := { name := "lineCheapest", fn := fun _ => fun
  | [d1, d2, d3] => { results := [.lit (.bool false)], args := [d1, d2, d3] }
  | _ => none }
def LineCheapestWrongFalsely : Prop := lineCheapestRow.holds Try.pinned (OpenSpec.ofChange lineCheapestWrong)

/-- 'spilelaw03.LineHeights': WHATEVER THE INPUT: true; the input reads as it did. -/
def lineHeightsSpec : ChangeSpec := { name := "lineHeights", fn := fun _ => fun
  | [d] => { results := [.lit (.bool true)], args := [d] }
  | _ => none }
def lineHeightsRow : OpenClaim := { program := "ytepibjfmeibgcaa", sum := "f0d8e9a0d54e5f2a034de5ffbefcbe56eff010b0b0a6a82b59f6fdea6b95b408", func := "spile/spilelaw03.LineHeights", spec := "lineHeights", unfollowed := true, recurses := true, plainKeys := false, apart := false }
def LineHeightsSaid : Prop := lineHeightsRow.holds Try.pinned (OpenSpec.ofChange lineHeightsSpec)

/-- ITS FALSE NEIGHBOUR: 'it returns false'. Refute it at one input. -/
def lineHeightsWrong : ChangeSpec := { name := "lineHeights", fn := fun _ => fun
  | [d] => { results := [.lit (.bool false)], args := [d] }
  | _ => none }
def LineHeightsWrongFalsely : Prop := lineHeightsRow.holds Try.pinned (OpenSpec.ofChange lineHeightsWrong)

/-- 'spilelaw03.LineFlows': WHATEVER THE INPUT: true; the input reads as it did. -/
def lineFlowsSpec : ChangeSpec := { name := "lineFlows", fn := fun _ => fun
  | [d1, d2, d3] => { results := [.lit (.bool true)], args := [d1, d2, d3] }
  | _ => none }
def lineFlowsRow : OpenClaim := { program := "ytepibjfmeibgcaa", sum := "f0d8e9a0d54e5f2a034de5ffbefcbe56eff010b0b0a6a82b59f6fdea6b95b408", func := "spile/spilelaw03.LineFlows", spec := "lineFlows", unfollowed := true, recurses := true, plainKeys := false, apart := false }
def LineFlowsSaid : Prop := lineFlowsRow.holds Try.pinned (OpenSpec.ofChange lineFlowsSpec)

/-- ITS FALSE NEIGHBOUR: 'it returns false'. Refute it at one input. -/
def lineFlowsWrong : ChangeSpec := { name := "lineFlows", fn := fun _ => fun
  | [d1, d2, d3] => { results := [.lit (.bool false)], args := [d1, d2, d3] }
  | _ => none }
def LineFlowsWrongFalsely : Prop := lineFlowsRow.holds Try.pinned (OpenSpec.ofChange lineFlowsWrong)

/-- 'spilelaw03.LineTruths': WHATEVER THE INPUT: true; the input reads as it did. -/
def lineTruthsSpec : ChangeSpec := { name := "lineTruths", fn := fun _ => fun
  | [d1, d2, d3] => { results := [.lit (.bool true)], args := [d1, d2, d3] }
  | _ => none }
def lineTruthsRow : OpenClaim := { program := "ytepibjfmeibgcaa", sum := "f0d8e9a0d54e5f2a034de5ffbefcbe56eff010b0b0a6a82b59f6fdea6b95b408", func := "spile/spilelaw03.LineTruths", spec := "lineTruths", unfollowed := true, recurses := true, plainKeys := false, apart := false }
def LineTruthsSaid : Prop := lineTruthsRow.holds Try.pinned (OpenSpec.ofChange lineTruthsSpec)

/-- ITS FALSE NEIGHBOUR: 'it returns false'. Refute it at one input. -/
def lineTruthsWrong : ChangeSpec := { name := "lineTruths", fn := fun _ => fun
  | [d1, d2, d3] => { results := [.lit (.bool false)], args := [d1, d2, d3] }
  | _ => none }
def LineTruthsWrongFalsely : Prop := lineTruthsRow.holds Try.pinned (OpenSpec.ofChange lineTruthsWrong)

/-- 'spilelaw03.LineWays': WHATEVER THE INPUT: true; the input reads as it did. -/
def lineWaysSpec : ChangeSpec := { name := "lineWays", fn := fun _ => fun
  | [d1, d2, d3] => { results := [.lit (.bool true)], args := [d1, d2, d3] }
  | _ => none }
def lineWaysRow : OpenClaim := { program := "ytepibjfmeibgcaa", sum := "f0d8e9a0d54e5f2a034de5ffbefcbe56eff010b0b0a6a82b59f6fdea6b95b408", func := "spile/spilelaw03.LineWays", spec := "lineWays", unfollowed := true, recurses := true, plainKeys := false, apart := false }
def LineWaysSaid : Prop := lineWaysRow.holds Try.pinned (OpenSpec.ofChange lineWaysSpec)

/-- ITS FALSE NEIGHBOUR: 'it returns false'. Refute it at one input. -/
def lineWaysWrong : ChangeSpec := { name := "lineWays", fn := fun _ => fun
  | [d1, d2, d3] => { results := [.lit (.bool false)], args := [d1, d2, d3] }
  | _ => none }
def LineWaysWrongFalsely : Prop := lineWaysRow.holds Try.pinned (OpenSpec.ofChange lineWaysWrong)

/-- 'spilelaw03.LineForest': WHATEVER THE INPUT: true; the input reads as it did. -/
def lineForestSpec : ChangeSpec := { name := "lineForest", fn := fun _ => fun
  | [d1, d2] => { results := [.lit (.bool true)], args := [d1, d2] }
  | _ => none }
def lineForestRow : OpenClaim := { program := "ytepibjfmeibgcaa", sum := "f0d8e9a0d54e5f2a034de5ffbefcbe56eff010b0b0a6a82b59f6fdea6b95b408", func := "spile/spilelaw03.LineForest", spec := "lineForest", unfollowed := true, recurses := true, plainKeys := false, apart := false }
def LineForestSaid : Prop := lineForestRow.holds Try.pinned (OpenSpec.ofChange lineForestSpec)

/-- ITS FALSE NEIGHBOUR: 'it returns false'. Refute it at one input. -/
def lineForestWrong : ChangeSpec := { name := "lineForest", fn := fun _ => fun
  | [d1, d2] => { results := [.lit (.bool false)], args := [d1, d2] }
  | _ => none }
def LineForestWrongFalsely : Prop := lineForestRow.holds Try.pinned (OpenSpec.ofChange lineForestWrong)

/-- 'spilelaw03.LineCuts': WHATEVER THE INPUT: true; the input reads as it did. -/
def lineCutsSpec : ChangeSpec := { name := "lineCuts", fn := fun _ => fun
  | [d1, d2, d3] => { results := [.lit (.bool true)], args := [d1, d2, d3] }
  | _ => none }
def lineCutsRow : OpenClaim := { program := "ytepibjfmeibgcaa", sum := "f0d8e9a0d54e5f2a034de5ffbefcbe56eff010b0b0a6a82b59f6fdea6b95b408", func := "spile/spilelaw03.LineCuts", spec := "lineCuts", unfollowed := true, recurses := true, plainKeys := false, apart := false }
def LineCutsSaid : Prop := lineCutsRow.holds Try.pinned (OpenSpec.ofChange lineCutsSpec)

/-- ITS FALSE NEIGHBOUR: 'it returns false'. Refute it at one input. -/
def lineCutsWrong : ChangeSpec := { name := "lineCuts", fn := fun _ => fun
  | [d1, d2, d3] => { results := [.lit (.bool false)], args := [d1, d2, d3] }
  | _ => none }
def LineCutsWrongFalsely : Prop := lineCutsRow.holds Try.pinned (OpenSpec.ofChange lineCutsWrong)

/-- 'spilelaw03.LineGrafts': WHATEVER THE INPUT: true; the input reads as it did. -/
def lineGraftsSpec : ChangeSpec := { name := "lineGrafts", fn := fun _ => fun
  | [d1, d2, d3] => { results := [.lit (.bool true)], args := [d1, d2, d3] }
  | _ => none }
def lineGraftsRow : OpenClaim := { program := "ytepibjfmeibgcaa", sum := "f0d8e9a0d54e5f2a034de5ffbefcbe56eff010b0b0a6a82b59f6fdea6b95b408", func := "spile/spilelaw03.LineGrafts", spec := "lineGrafts", unfollowed := true, recurses := true, plainKeys := false, apart := false }
def LineGraftsSaid : Prop := lineGraftsRow.holds Try.pinned (OpenSpec.ofChange lineGraftsSpec)

/-- ITS FALSE NEIGHBOUR: 'it returns false'. Refute it at one input. -/
def lineGraftsWrong : ChangeSpec := { name := "lineGrafts", fn := fun _ => fun
  | [d1, d2, d3] => { results := [.lit (.bool false)], args := [d1, d2, d3] }
  | _ => none }
def LineGraftsWrongFalsely : Prop := lineGraftsRow.holds Try.pinned (OpenSpec.ofChange lineGraftsWrong)

/-- 'spilelaw03.LineTights': WHATEVER THE INPUT: true; the input reads as it did. -/
def lineTightsSpec : ChangeSpec := { name := "lineTights", fn := fun _ => fun
  | [d1, d2, d3] => { results := [.lit (.bool true)], args := [d1, d2, d3] }
  | _ => none }
def lineTightsRow : OpenClaim := { program := "ytepibjfmeibgcaa", sum := "f0d8e9a0d54e5f2a034de5ffbefcbe56eff010b0b0a6a82b59f6fdea6b95b408", func := "spile/spilelaw03.LineTights", spec := "lineTights", unfollowed := true, recurses := true, named := ["math/bits.divideError", "math/bits.overflowError"], plainKeys := false, apart := false }
def LineTightsSaid : Prop := lineTightsRow.holds Try.pinned (OpenSpec.ofChange lineTightsSpec)

/-- ITS FALSE NEIGHBOUR: 'it returns false'. Refute it at one input. -/
def lineTightsWrong : ChangeSpec := { name := "lineTights", fn := fun _ => fun
  | [d1, d2, d3] => { results := [.lit (.bool false)], args := [d1, d2, d3] }
  | _ => none }
def LineTightsWrongFalsely : Prop := lineTightsRow.holds Try.pinned (OpenSpec.ofChange lineTightsWrong)

/- THE SECOND FORM. 'bulk': how many values and letters a reading holds, each counted each time it is reached (what is shared counts as often as it is met; a slice's spare places count too). A statement '..UptoSaid' is the law's where the arguments, and the package variables that the reading takes, are together of bulk at most 1048576: NARROWER than '..Said'. Prove '..Said' where nothing that the law and all that it calls make is longer than what came in: it says more and counts as full. Else prove '..UptoSaid'. A law counts once. -/
mutual
def uptoBulk {H : Type} : DataW H → Nat
  | .lit (.string bytes) => bytes.length + 1
  | .lit _ => 1
  | .nil => 1
  | .ptr d => uptoBulk d + 1
  | .slice elems spare => uptoBulkAll elems + uptoBulkAll spare + 1
  | .agg parts => uptoBulkAll parts + 1
  | .iface _ d => uptoBulk d + 1
  | .map entries => uptoBulkEntries entries + 1
  | .held _ => 1
def uptoBulkAll {H : Type} : List (DataW H) → Nat
  | [] => 0
  | d :: r => uptoBulk d + uptoBulkAll r
def uptoBulkEntries {H : Type} : List (Lit × DataW H) → Nat
  | [] => 0
  | x :: r => uptoBulkEntry x + uptoBulkEntries r
def uptoBulkEntry {H : Type} : Lit × DataW H → Nat
  | (.string bytes, d) => bytes.length + uptoBulk d + 1
  | (_, d) => uptoBulk d + 1
 end
def uptoSmall : (H : Type) → List (DataW H) → Bool := fun _ ds => decide (uptoBulkAll ds ≤ 1048576)
def OpenSpec.upto (s : _root_.Go.ChangeSpec) : _root_.Go.OpenSpec := { _root_.Go.OpenSpec.ofChange s with cond := some uptoSmall }

/-- 'spilelaw03.LinePlans', WHERE WHAT IT READS IS OF BULK AT MOST 1048576: true; the input reads as it did. -/
def linePlansUptoRow : OpenClaim := { program := "ytepibjfmeibgcaa", sum := "f0d8e9a0d54e5f2a034de5ffbefcbe56eff010b0b0a6a82b59f6fdea6b95b408", func := "spile/spilelaw03.LinePlans", spec := "linePlans", unfollowed := true, recurses := true, plainKeys := false, apart := false, narrowed := true }
def LinePlansUptoSaid : Prop := linePlansUptoRow.holds Try.pinned (OpenSpec.upto linePlansSpec)

/-- 'spilelaw03.LineArrives', WHERE WHAT IT READS IS OF BULK AT MOST 1048576: true; the input reads as it did. -/
def lineArrivesUptoRow : OpenClaim := { program := "ytepibjfmeibgcaa", sum := "f0d8e9a0d54e5f2a034de5ffbefcbe56eff010b0b0a6a82b59f6fdea6b95b408", func := "spile/spilelaw03.LineArrives", spec := "lineArrives", unfollowed := true, recurses := true, plainKeys := false, apart := false, narrowed := true }
def LineArrivesUptoSaid : Prop := lineArrivesUptoRow.holds Try.pinned (OpenSpec.upto lineArrivesSpec)

/-- 'spilelaw03.LineCheapest', WHERE WHAT IT READS IS OF BULK AT MOST 1048576: true; the input reads as it did. -/
def lineCheapestUptoRow : OpenClaim := { program := "ytepibjfmeibgcaa", sum := "f0d8e9a0d54e5f2a034de5ffbefcbe56eff010b0b0a6a82b59f6fdea6b95b408", func := "spile/spilelaw03.LineCheapest", spec := "lineCheapest", unfollowed := true, recurses := true, plainKeys := false, apart := false, narrowed := true }
def LineCheapestUptoSaid : Prop := lineCheapestUptoRow.holds Try.pinned (OpenSpec.upto lineCheapestSpec)

/-- 'spilelaw03.LineHeights', WHERE WHAT IT READS IS OF BULK AT MOST 1048576: true; the input reads as it did. -/
def lineHeightsUptoRow : OpenClaim := { program := "ytepibjfmeibgcaa", sum := "f0d8e9a0d54e5f2a034de5ffbefcbe56eff010b0b0a6a82b59f6fdea6b95b408", func := "spile/spilelaw03.LineHeights", spec := "lineHeights", unfollowed := true, recurses := true, plainKeys := false, apart := false, narrowed := true }
def LineHeightsUptoSaid : Prop := lineHeightsUptoRow.holds Try.pinned (OpenSpec.upto lineHeightsSpec)

/-- 'spilelaw03.LineFlows', WHERE WHAT IT READS IS OF BULK AT MOST 1048576: true; the input reads as it did. -/
def lineFlowsUptoRow : OpenClaim := { program := "ytepibjfmeibgcaa", sum := "f0d8e9a0d54e5f2a034de5ffbefcbe56eff010b0b0a6a82b59f6fdea6b95b408", func := "spile/spilelaw03.LineFlows", spec := "lineFlows", unfollowed := true, recurses := true, plainKeys := false, apart := false, narrowed := true }
def LineFlowsUptoSaid : Prop := lineFlowsUptoRow.holds Try.pinned (OpenSpec.upto lineFlowsSpec)

/-- 'spilelaw03.LineTruths', WHERE WHAT IT READS IS OF BULK AT MOST 1048576: true; the input reads as it did. -/
def lineTruthsUptoRow : OpenClaim := { program := "ytepibjfmeibgcaa", sum := "f0d8e9a0d54e5f2a034de5ffbefcbe56eff010b0b0a6a82b59f6fdea6b95b408", func := "spile/spilelaw03.LineTruths", spec := "lineTruths", unfollowed := true, recurses := true, plainKeys := false, apart := false, narrowed := true }
def LineTruthsUptoSaid : Prop := lineTruthsUptoRow.holds Try.pinned (OpenSpec.upto lineTruthsSpec)

/-- 'spilelaw03.LineWays', WHERE WHAT IT READS IS OF BULK AT MOST 1048576: true; the input reads as it did. -/
def lineWaysUptoRow : OpenClaim := { program := "ytepibjfmeibgcaa", sum := "f0d8e9a0d54e5f2a034de5ffbefcbe56eff010b0b0a6a82b59f6fdea6b95b408", func := "spile/spilelaw03.LineWays", spec := "lineWays", unfollowed := true, recurses := true, plainKeys := false, apart := false, narrowed := true }
def LineWaysUptoSaid : Prop := lineWaysUptoRow.holds Try.pinned (OpenSpec.upto lineWaysSpec)

/-- 'spilelaw03.LineForest', WHERE WHAT IT READS IS OF BULK AT MOST 1048576: true; the input reads as it did. -/
def lineForestUptoRow : OpenClaim := { program := "ytepibjfmeibgcaa", sum := "f0d8e9a0d54e5f2a034de5ffbefcbe56eff010b0b0a6a82b59f6fdea6b95b408", func := "spile/spilelaw03.LineForest", spec := "lineForest", unfollowed := true, recurses := true, plainKeys := false, apart := false, narrowed := true }
def LineForestUptoSaid : Prop := lineForestUptoRow.holds Try.pinned (OpenSpec.upto lineForestSpec)

/-- 'spilelaw03.LineCuts', WHERE WHAT IT READS IS OF BULK AT MOST 1048576: true; the input reads as it did. -/
def lineCutsUptoRow : OpenClaim := { program := "ytepibjfmeibgcaa", sum := "f0d8e9a0d54e5f2a034de5ffbefcbe56eff010b0b0a6a82b59f6fdea6b95b408", func := "spile/spilelaw03.LineCuts", spec := "lineCuts", unfollowed := true, recurses := true, plainKeys := false, apart := false, narrowed := true }
def LineCutsUptoSaid : Prop := lineCutsUptoRow.holds Try.pinned (OpenSpec.upto lineCutsSpec)

/-- 'spilelaw03.LineGrafts', WHERE WHAT IT READS IS OF BULK AT MOST 1048576: true; the input reads as it did. -/
def lineGraftsUptoRow : OpenClaim := { program := "ytepibjfmeibgcaa", sum := "f0d8e9a0d54e5f2a034de5ffbefcbe56eff010b0b0a6a82b59f6fdea6b95b408", func := "spile/spilelaw03.LineGrafts", spec := "lineGrafts", unfollowed := true, recurses := true, plainKeys := false, apart := false, narrowed := true }
def LineGraftsUptoSaid : Prop := lineGraftsUptoRow.holds Try.pinned (OpenSpec.upto lineGraftsSpec)

/-- 'spilelaw03.LineTights', WHERE WHAT IT READS IS OF BULK AT MOST 1048576: true; the input reads as it did. -/
def lineTightsUptoRow : OpenClaim := { program := "ytepibjfmeibgcaa", sum := "f0d8e9a0d54e5f2a034de5ffbefcbe56eff010b0b0a6a82b59f6fdea6b95b408", func := "spile/spilelaw03.LineTights", spec := "lineTights", unfollowed := true, recurses := true, named := ["math/bits.divideError", "math/bits.overflowError"], plainKeys := false, apart := false, narrowed := true }
def LineTightsUptoSaid : Prop := lineTightsUptoRow.holds Try.pinned (OpenSpec.upto lineTightsSpec)

end Rows
end Go.Proofs.Ytepibjfmeibgcaa
