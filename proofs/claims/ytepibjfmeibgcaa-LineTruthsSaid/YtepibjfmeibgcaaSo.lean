/- Arguments opened: a list of ranges. -/
import Derived.Test.YtepibjfmeibgcaaSh
namespace Go.Proofs.Ytepibjfmeibgcaa
open Go.RowKit Go.ChangeShapes Go.WideShapes Go.ChangeAt Go.Deep Go.Joins
section
variable {H : Type} {enc : TypeId × Value → H} {w : World} {base : Nat} {spare : Nat → Bool} {held : Bool}
set_option maxRecDepth 100000 in
theorem open_rs {r : Reach} {b0 : Nat} {v : Value} {d : DataW H} {p : List MemPlace} (hv : Value.okWide Try.prog w r b0 25 v) (h : DataW.Trod enc Try.prog w base spare held 25 v d p) :
    ∃ (A : Option Addr) (xs : List Rng) (c : Nat), v = .slice A xs.length c ∧ xs.length ≤ c ∧ c ≤ maxLen ∧ RdR w 0 w.heap.size A xs := by
  obtain ⟨a, l, c0, rfl⟩ := okWide_slice Try.underlying25 hv
  obtain ⟨fuel, hf⟩ := h
  obtain ⟨A, xs, c, e, h1, h2, h3⟩ := rd_ranges hf
  have e' : Value.slice a l c0 = Value.slice A xs.length c := by simpa [Value.cells] using e
  exact ⟨A, xs, c, e', h1, h2, h3⟩
end
end Go.Proofs.Ytepibjfmeibgcaa
