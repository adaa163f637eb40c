/-
  No cell of these rows narrows 'for every input' (looked for: loops, veiled, ifaces, maps, wideKeys, modest, calm, conditions, laid).
  DERIVED. THE GIVEN ROWS OF THIS SEAT. 10 by the template 'for every input the law returns true; each argument reads behind the call as it read before'; 0 by the template 'total and deterministic' (their statements: YtbpblhmigijkaaaTotals.lean).
  GIVEN WITH THE SEED: the statements are not yours to turn. If you find one false, say at which input.
  Laid BY PROGRAM, IN A SANDBOX (cutbox-rows.mjs): the forced cells as the released guide's own fill.sh prints them over the translation 2d27e05818563641… (all of the seat's roots in one cut). By AI agents, Wed Nov 11 2026. No macro, syntax, notation, axiom, sorry.
-/
import Derived.Test.YtbpblhmigijkaaaChecked
import GoSem.Claim
import GoSem.ClaimJoined
import GoSem.ClaimMapViews
import Derived.JoinedTies
import Derived.KernelRfl
namespace Go.Proofs.Ytbpblhmigijkaaa
/- THE CELL 'sum', in the pinned program and in every row, IS THE sha256 OF THE DUMP (.gsa) THAT YtbpblhmigijkaaaProg.lean LOADS. Nothing in Lean hashes anything: it is a label: what it is worth is what the hold of that sum in a sandbox is worth. -/
noncomputable def Try.pinned : Pinned := { name := "ytbpblhmigijkaaa", sum := "2d27e05818563641ed39baafa05d0caed1706051f5a25d0e6b0d3c58470627ea", checked := Try.checked }
namespace Rows
def none {H : Type} : Left H := { results := [], args := [] }

/-- 'spilelaw02.TrunkTells': WHATEVER THE INPUT: true; the input reads as it did. -/
def trunkTellsSpec : ChangeSpec := { name := "trunkTells", fn := fun _ => fun
  | [d1, d2, d3] => { results := [.lit (.bool true)], args := [d1, d2, d3] }
  | _ => none }
def trunkTellsRow : OpenClaim := { program := "ytbpblhmigijkaaa", sum := "2d27e05818563641ed39baafa05d0caed1706051f5a25d0e6b0d3c58470627ea", func := "spile/spilelaw02.TrunkTells", spec := "trunkTells", unfollowed := true, recurses := true, apart := false }
def TrunkTellsSaid : Prop := trunkTellsRow.holds Try.pinned (OpenSpec.ofChange trunkTellsSpec)

/-- ITS FALSE NEIGHBOUR: 'it returns false'. Refute it at one input. -/
def trunkTellsWrong : ChangeSpec := { name := "trunkTells", fn := fun _ => fun
  | [d1, d2, d3] => { results := [.lit (.bool false)], args := [d1, d2, d3] }
  | _ => none }
def TrunkTellsWrongFalsely : Prop := trunkTellsRow.holds Try.pinned (OpenSpec.ofChange trunkTellsWrong)

/-- 'spilelaw02.TrunkFree': WHATEVER THE INPUT: true; the input reads as it did. -/
def trunkFreeSpec : ChangeSpec := { name := "trunkFree", fn := fun _ => fun
  | [d1, d2, d3] => { results := [.lit (.bool true)], args := [d1, d2, d3] }
  | _ => none }
def trunkFreeRow : OpenClaim := { program := "ytbpblhmigijkaaa", sum := "2d27e05818563641ed39baafa05d0caed1706051f5a25d0e6b0d3c58470627ea", func := "spile/spilelaw02.TrunkFree", spec := "trunkFree", unfollowed := true, recurses := true, apart := false }
def TrunkFreeSaid : Prop := trunkFreeRow.holds Try.pinned (OpenSpec.ofChange trunkFreeSpec)

/-- ITS FALSE NEIGHBOUR: 'it returns false'. Refute it at one input. -/
def trunkFreeWrong : ChangeSpec := { name := "trunkFree", fn := fun _ => fun
  | [d1, d2, d3] => { results := [.lit (.bool false)], args := [d1, d2, d3] }
  | _ => none }
def TrunkFreeWrongFalsely : Prop := trunkFreeRow.holds Try.pinned (OpenSpec.ofChange trunkFreeWrong)

/-- 'spilelaw02.TrunkLess': WHATEVER THE INPUT: true; the input reads as it did. -/
def trunkLessSpec : ChangeSpec := { name := "trunkLess", fn := fun _ => fun
  | [d1, d2, d3] => { results := [.lit (.bool true)], args := [d1, d2, d3] }
  | _ => none }
def trunkLessRow : OpenClaim := { program := "ytbpblhmigijkaaa", sum := "2d27e05818563641ed39baafa05d0caed1706051f5a25d0e6b0d3c58470627ea", func := "spile/spilelaw02.TrunkLess", spec := "trunkLess", unfollowed := true, recurses := true, apart := false }
def TrunkLessSaid : Prop := trunkLessRow.holds Try.pinned (OpenSpec.ofChange trunkLessSpec)

/-- ITS FALSE NEIGHBOUR: 'it returns false'. Refute it at one input. -/
def trunkLessWrong : ChangeSpec := { name := "trunkLess", fn := fun _ => fun
  | [d1, d2, d3] => { results := [.lit (.bool false)], args := [d1, d2, d3] }
  | _ => none }
def TrunkLessWrongFalsely : Prop := trunkLessRow.holds Try.pinned (OpenSpec.ofChange trunkLessWrong)

/-- 'spilelaw02.TrunkRoom': WHATEVER THE INPUT: true; the input reads as it did. -/
def trunkRoomSpec : ChangeSpec := { name := "trunkRoom", fn := fun _ => fun
  | [d1, d2, d3] => { results := [.lit (.bool true)], args := [d1, d2, d3] }
  | _ => none }
def trunkRoomRow : OpenClaim := { program := "ytbpblhmigijkaaa", sum := "2d27e05818563641ed39baafa05d0caed1706051f5a25d0e6b0d3c58470627ea", func := "spile/spilelaw02.TrunkRoom", spec := "trunkRoom", unfollowed := true, recurses := true, apart := false }
def TrunkRoomSaid : Prop := trunkRoomRow.holds Try.pinned (OpenSpec.ofChange trunkRoomSpec)

/-- ITS FALSE NEIGHBOUR: 'it returns false'. Refute it at one input. -/
def trunkRoomWrong : ChangeSpec := { name := "trunkRoom", fn := fun _ => fun
  | [d1, d2, d3] => { results := [.lit (.bool false)], args := [d1, d2, d3] }
  | _ => none }
def TrunkRoomWrongFalsely : Prop := trunkRoomRow.holds Try.pinned (OpenSpec.ofChange trunkRoomWrong)

/-- 'spilelaw02.TrunkBlocks': WHATEVER THE INPUT: true; the input reads as it did. -/
def trunkBlocksSpec : ChangeSpec := { name := "trunkBlocks", fn := fun _ => fun
  | [d1, d2, d3] => { results := [.lit (.bool true)], args := [d1, d2, d3] }
  | _ => none }
def trunkBlocksRow : OpenClaim := { program := "ytbpblhmigijkaaa", sum := "2d27e05818563641ed39baafa05d0caed1706051f5a25d0e6b0d3c58470627ea", func := "spile/spilelaw02.TrunkBlocks", spec := "trunkBlocks", unfollowed := true, recurses := true, apart := false }
def TrunkBlocksSaid : Prop := trunkBlocksRow.holds Try.pinned (OpenSpec.ofChange trunkBlocksSpec)

/-- ITS FALSE NEIGHBOUR: 'it returns false'. Refute it at one input. -/
def trunkBlocksWrong : ChangeSpec := { name := "trunkBlocks", fn := fun _ => fun
  | [d1, d2, d3] => { results := [.lit (.bool false)], args := [d1, d2, d3] }
  | _ => none }
def TrunkBlocksWrongFalsely : Prop := trunkBlocksRow.holds Try.pinned (OpenSpec.ofChange trunkBlocksWrong)

/-- 'spilelaw02.TrunkHeals': WHATEVER THE INPUT: true; the input reads as it did. -/
def trunkHealsSpec : ChangeSpec := { name := "trunkHeals", fn := fun _ => fun
  | [d1, d2, d3] => { results := [.lit (.bool true)], args := [d1, d2, d3] }
  | _ => none }
def trunkHealsRow : OpenClaim := { program := "ytbpblhmigijkaaa", sum := "2d27e05818563641ed39baafa05d0caed1706051f5a25d0e6b0d3c58470627ea", func := "spile/spilelaw02.TrunkHeals", spec := "trunkHeals", unfollowed := true, recurses := true, apart := false }
def TrunkHealsSaid : Prop := trunkHealsRow.holds Try.pinned (OpenSpec.ofChange trunkHealsSpec)

/-- ITS FALSE NEIGHBOUR: 'it returns false'. Refute it at one input. -/
def trunkHealsWrong : ChangeSpec := { name := "trunkHeals", fn := fun _ => fun
  | [d1, d2, d3] => { results := [.lit (.bool false)], args := [d1, d2, d3] }
  | _ => none }
def TrunkHealsWrongFalsely : Prop := trunkHealsRow.holds Try.pinned (OpenSpec.ofChange trunkHealsWrong)

/-- 'spilelaw02.TrunkKeeps': WHATEVER THE INPUT: true; the input reads as it did. -/
def trunkKeepsSpec : ChangeSpec := { name := "trunkKeeps", fn := fun _ => fun
  | [d1, d2, d3] => { results := [.lit (.bool true)], args := [d1, d2, d3] }
  | _ => none }
def trunkKeepsRow : OpenClaim := { program := "ytbpblhmigijkaaa", sum := "2d27e05818563641ed39baafa05d0caed1706051f5a25d0e6b0d3c58470627ea", func := "spile/spilelaw02.TrunkKeeps", spec := "trunkKeeps", unfollowed := true, recurses := true, apart := false }
def TrunkKeepsSaid : Prop := trunkKeepsRow.holds Try.pinned (OpenSpec.ofChange trunkKeepsSpec)

/-- ITS FALSE NEIGHBOUR: 'it returns false'. Refute it at one input. -/
def trunkKeepsWrong : ChangeSpec := { name := "trunkKeeps", fn := fun _ => fun
  | [d1, d2, d3] => { results := [.lit (.bool false)], args := [d1, d2, d3] }
  | _ => none }
def TrunkKeepsWrongFalsely : Prop := trunkKeepsRow.holds Try.pinned (OpenSpec.ofChange trunkKeepsWrong)

/-- 'spilelaw02.TrunkRotas': WHATEVER THE INPUT: true; the input reads as it did. -/
def trunkRotasSpec : ChangeSpec := { name := "trunkRotas", fn := fun _ => fun
  | [d1, d2, d3] => { results := [.lit (.bool true)], args := [d1, d2, d3] }
  | _ => none }
def trunkRotasRow : OpenClaim := { program := "ytbpblhmigijkaaa", sum := "2d27e05818563641ed39baafa05d0caed1706051f5a25d0e6b0d3c58470627ea", func := "spile/spilelaw02.TrunkRotas", spec := "trunkRotas", unfollowed := true, recurses := true, apart := false }
def TrunkRotasSaid : Prop := trunkRotasRow.holds Try.pinned (OpenSpec.ofChange trunkRotasSpec)

/-- ITS FALSE NEIGHBOUR: 'it returns false'. Refute it at one input. -/
def trunkRotasWrong : ChangeSpec := { name := "trunkRotas", fn := fun _ => fun
  | [d1, d2, d3] => { results := [.lit (.bool false)], args := [d1, d2, d3] }
  | _ => none }
def TrunkRotasWrongFalsely : Prop := trunkRotasRow.holds Try.pinned (OpenSpec.ofChange trunkRotasWrong)

/-- 'spilelaw02.TrunkVerifies': WHATEVER THE INPUT: true; the input reads as it did. -/
def trunkVerifiesSpec : ChangeSpec := { name := "trunkVerifies", fn := fun _ => fun
  | [d1, d2, d3] => { results := [.lit (.bool true)], args := [d1, d2, d3] }
  | _ => none }
def trunkVerifiesRow : OpenClaim := { program := "ytbpblhmigijkaaa", sum := "2d27e05818563641ed39baafa05d0caed1706051f5a25d0e6b0d3c58470627ea", func := "spile/spilelaw02.TrunkVerifies", spec := "trunkVerifies", unfollowed := true, recurses := true, apart := false }
def TrunkVerifiesSaid : Prop := trunkVerifiesRow.holds Try.pinned (OpenSpec.ofChange trunkVerifiesSpec)

/-- ITS FALSE NEIGHBOUR: 'it returns false'. Refute it at one input. -/
def trunkVerifiesWrong : ChangeSpec := { name := "trunkVerifies", fn := fun _ => fun
  | [d1, d2, d3] => { results := [.lit (.bool false)], args := [d1, d2, d3] }
  | _ => none }
def TrunkVerifiesWrongFalsely : Prop := trunkVerifiesRow.holds Try.pinned (OpenSpec.ofChange trunkVerifiesWrong)

/-- 'spilelaw02.TrunkNever': WHATEVER THE INPUT: true; the input reads as it did. -/
def trunkNeverSpec : ChangeSpec := { name := "trunkNever", fn := fun _ => fun
  | [d1, d2, d3] => { results := [.lit (.bool true)], args := [d1, d2, d3] }
  | _ => none }
def trunkNeverRow : OpenClaim := { program := "ytbpblhmigijkaaa", sum := "2d27e05818563641ed39baafa05d0caed1706051f5a25d0e6b0d3c58470627ea", func := "spile/spilelaw02.TrunkNever", spec := "trunkNever", unfollowed := true, recurses := true, apart := false }
def TrunkNeverSaid : Prop := trunkNeverRow.holds Try.pinned (OpenSpec.ofChange trunkNeverSpec)

/-- ITS FALSE NEIGHBOUR: 'it returns false'. Refute it at one input. -/
def trunkNeverWrong : ChangeSpec := { name := "trunkNever", fn := fun _ => fun
  | [d1, d2, d3] => { results := [.lit (.bool false)], args := [d1, d2, d3] }
  | _ => none }
def TrunkNeverWrongFalsely : Prop := trunkNeverRow.holds Try.pinned (OpenSpec.ofChange trunkNeverWrong)

/- THE SECOND FORM. 'bulk': how many values and letters a reading holds, each counted each time it is reached (what is shared counts as often as it is met; a slice's spare places count too). A statement '..UptoSaid' is the law's where the arguments, and the package variables that the reading takes, are together of bulk at most 1048576: NARROWER than '..Said'. Prove '..Said' where nothing that the law and all that it calls make is longer than what came in: it says more and counts as full. Else prove '..UptoSaid'. A law counts once. -/
mutual
def uptoBulk {H : Type} : DataW H → Nat
  | .lit (.string bytes) => bytes.length + 1
  | .lit _ => 1
  | .nil => 1
  | .ptr d => uptoBulk d + 1
  | .slice elems spare => uptoBulkAll elems + uptoBulkAll spare + 1
  | .agg parts => uptoBulkAll parts + 1
  | .iface _ d => uptoBulk d + 1
  | .map entries => uptoBulkEntries entries + 1
  | .held _ => 1
def uptoBulkAll {H : Type} : List (DataW H) → Nat
  | [] => 0
  | d :: r => uptoBulk d + uptoBulkAll r
def uptoBulkEntries {H : Type} : List (Lit × DataW H) → Nat
  | [] => 0
  | x :: r => uptoBulkEntry x + uptoBulkEntries r
def uptoBulkEntry {H : Type} : Lit × DataW H → Nat
  | (.string bytes, d) => bytes.length + uptoBulk d + 1
  | (_, d) => uptoBulk d + 1
 end
def uptoSmall : (H : Type) → List (DataW H) → Bool := fun _ ds => decide (uptoBulkAll ds ≤ 1048576)
def OpenSpec.upto (s : _root_.Go.ChangeSpec) : _root_.Go.OpenSpec := { _root_.Go.OpenSpec.ofChange s with cond := some uptoSmall }

/-- 'spilelaw02.TrunkTells', WHERE WHAT IT READS IS OF BULK AT MOST 1048576: true; the input reads as it did. -/
def trunkTellsUptoRow : OpenClaim := { program := "ytbpblhmigijkaaa", sum := "2d27e05818563641ed39baafa05d0caed1706051f5a25d0e6b0d3c58470627ea", func := "spile/spilelaw02.TrunkTells", spec := "trunkTells", unfollowed := true, recurses := true, apart := false, narrowed := true }
def TrunkTellsUptoSaid : Prop := trunkTellsUptoRow.holds Try.pinned (OpenSpec.upto trunkTellsSpec)

/-- 'spilelaw02.TrunkFree', WHERE WHAT IT READS IS OF BULK AT MOST 1048576: true; the input reads as it did. -/
def trunkFreeUptoRow : OpenClaim := { program := "ytbpblhmigijkaaa", sum := "2d27e05818563641ed39baafa05d0caed1706051f5a25d0e6b0d3c58470627ea", func := "spile/spilelaw02.TrunkFree", spec := "trunkFree", unfollowed := true, recurses := true, apart := false, narrowed := true }
def TrunkFreeUptoSaid : Prop := trunkFreeUptoRow.holds Try.pinned (OpenSpec.upto trunkFreeSpec)

/-- 'spilelaw02.TrunkLess', WHERE WHAT IT READS IS OF BULK AT MOST 1048576: true; the input reads as it did. -/
def trunkLessUptoRow : OpenClaim := { program := "ytbpblhmigijkaaa", sum := "2d27e05818563641ed39baafa05d0caed1706051f5a25d0e6b0d3c58470627ea", func := "spile/spilelaw02.TrunkLess", spec := "trunkLess", unfollowed := true, recurses := true, apart := false, narrowed := true }
def TrunkLessUptoSaid : Prop := trunkLessUptoRow.holds Try.pinned (OpenSpec.upto trunkLessSpec)

/-- 'spilelaw02.TrunkRoom', WHERE WHAT IT READS IS OF BULK AT MOST 1048576: true; the input reads as it did. -/
def trunkRoomUptoRow : OpenClaim := { program := "ytbpblhmigijkaaa", sum := "2d27e05818563641ed39baafa05d0caed1706051f5a25d0e6b0d3c58470627ea", func := "spile/spilelaw02.TrunkRoom", spec := "trunkRoom", unfollowed := true, recurses := true, apart := false, narrowed := true }
def TrunkRoomUptoSaid : Prop := trunkRoomUptoRow.holds Try.pinned (OpenSpec.upto trunkRoomSpec)

/-- 'spilelaw02.TrunkBlocks', WHERE WHAT IT READS IS OF BULK AT MOST 1048576: true; the input reads as it did. -/
def trunkBlocksUptoRow : OpenClaim := { program := "ytbpblhmigijkaaa", sum := "2d27e05818563641ed39baafa05d0caed1706051f5a25d0e6b0d3c58470627ea", func := "spile/spilelaw02.TrunkBlocks", spec := "trunkBlocks", unfollowed := true, recurses := true, apart := false, narrowed := true }
def TrunkBlocksUptoSaid : Prop := trunkBlocksUptoRow.holds Try.pinned (OpenSpec.upto trunkBlocksSpec)

/-- 'spilelaw02.TrunkHeals', WHERE WHAT IT READS IS OF BULK AT MOST 1048576: true; the input reads as it did. -/
def trunkHealsUptoRow : OpenClaim := { program := "ytbpblhmigijkaaa", sum := "2d27e05818563641ed39baafa05d0caed1706051f5a25d0e6b0d3c58470627ea", func := "spile/spilelaw02.TrunkHeals", spec := "trunkHeals", unfollowed := true, recurses := true, apart := false, narrowed := true }
def TrunkHealsUptoSaid : Prop := trunkHealsUptoRow.holds Try.pinned (OpenSpec.upto trunkHealsSpec)

/-- 'spilelaw02.TrunkKeeps', WHERE WHAT IT READS IS OF BULK AT MOST 1048576: true; the input reads as it did. -/
def trunkKeepsUptoRow : OpenClaim := { program := "ytbpblhmigijkaaa", sum := "2d27e05818563641ed39baafa05d0caed1706051f5a25d0e6b0d3c58470627ea", func := "spile/spilelaw02.TrunkKeeps", spec := "trunkKeeps", unfollowed := true, recurses := true, apart := false, narrowed := true }
def TrunkKeepsUptoSaid : Prop := trunkKeepsUptoRow.holds Try.pinned (OpenSpec.upto trunkKeepsSpec)

/-- 'spilelaw02.TrunkRotas', WHERE WHAT IT READS IS OF BULK AT MOST 1048576: true; the input reads as it did. -/
def trunkRotasUptoRow : OpenClaim := { program := "ytbpblhmigijkaaa", sum := "2d27e05818563641ed39baafa05d0caed1706051f5a25d0e6b0d3c58470627ea", func := "spile/spilelaw02.TrunkRotas", spec := "trunkRotas", unfollowed := true, recurses := true, apart := false, narrowed := true }
def TrunkRotasUptoSaid : Prop := trunkRotasUptoRow.holds Try.pinned (OpenSpec.upto trunkRotasSpec)

/-- 'spilelaw02.TrunkVerifies', WHERE WHAT IT READS IS OF BULK AT MOST 1048576: true; the input reads as it did. -/
def trunkVerifiesUptoRow : OpenClaim := { program := "ytbpblhmigijkaaa", sum := "2d27e05818563641ed39baafa05d0caed1706051f5a25d0e6b0d3c58470627ea", func := "spile/spilelaw02.TrunkVerifies", spec := "trunkVerifies", unfollowed := true, recurses := true, apart := false, narrowed := true }
def TrunkVerifiesUptoSaid : Prop := trunkVerifiesUptoRow.holds Try.pinned (OpenSpec.upto trunkVerifiesSpec)

/-- 'spilelaw02.TrunkNever', WHERE WHAT IT READS IS OF BULK AT MOST 1048576: true; the input reads as it did. -/
def trunkNeverUptoRow : OpenClaim := { program := "ytbpblhmigijkaaa", sum := "2d27e05818563641ed39baafa05d0caed1706051f5a25d0e6b0d3c58470627ea", func := "spile/spilelaw02.TrunkNever", spec := "trunkNever", unfollowed := true, recurses := true, apart := false, narrowed := true }
def TrunkNeverUptoSaid : Prop := trunkNeverUptoRow.holds Try.pinned (OpenSpec.upto trunkNeverSpec)

end Rows
end Go.Proofs.Ytbpblhmigijkaaa
