/- Arguments opened: a list of ranges. -/
import Derived.Test.YtepibjfmeibgcaaSh
namespace Go.Proofs.Ytepibjfmeibgcaa
open Go.RowKit Go.ChangeShapes Go.WideShapes Go.ChangeAt Go.Deep Go.Joins
section
variable {H : Type} {enc : TypeId × Value → H} {w : World} {base : Nat} {spare : Nat → Bool} {held : Bool}
set_option maxRecDepth 100000 in
theorem open_rs {r : Reach} {b0 : Nat} {v : Value} {d : DataW H} {p : List MemPlace} (hv : Value.okWide Try.prog w r b0 25 v) (h : DataW.Trod enc Try.prog w base spare held 25 v d p) :
    ∃ (A : Option Addr) (xs : List Rng) (c : Nat), v = .slice A xs.length c ∧ xs.length ≤ c ∧ c ≤ maxLen ∧ RdR w 0 w.heap.size A xs := by
  obtain ⟨a, l, c0, rfl⟩ := okWide_slice Try.underlying25 hv
  obtain ⟨fuel, hf⟩ := h
  obtain ⟨A, xs, c, e, h1, h2, h3⟩ := rd_ranges hf
  have e' : Value.slice a l c0 = Value.slice A xs.length c := by simpa [Value.cells] using e
  exact ⟨A, xs, c, e', h1, h2, h3⟩
theorem wf_i64 {n : Int} (h : (Lit.int .i64 n).wf = true) : -9223372036854775808 ≤ n ∧ n < 9223372036854775808 := by
  simp [Lit.wf, IntKind.min, IntKind.max, IntKind.signed, IntKind.bits] at h
  omega
theorem wf_8 {n : Int} (h : (Lit.int .u8 n).wf = true) : 0 ≤ n ∧ n ≤ 255 := by
  simp [Lit.wf, IntKind.min, IntKind.max, IntKind.signed, IntKind.bits] at h
  omega
theorem array3b {cs : Array Value} (h : cs.size = 3) : ∃ c0 c1 c2, cs = #[c0, c1, c2] := by
  obtain ⟨l⟩ := cs
  match l, h with
  | [c0, c1, c2], _ => exact ⟨c0, c1, c2, rfl⟩
set_option maxRecDepth 100000 in
theorem open_bytes {r : Reach} {b0 : Nat} {v : Value} {d : DataW H} {p : List MemPlace} (hv : Value.okWide Try.prog w r b0 83 v) (h : DataW.Trod enc Try.prog w base spare held 83 v d p) :
    ∃ a0 a1 a2 : Int, v = .agg #[.int .u8 a0, .int .u8 a1, .int .u8 a2] ∧ (0 ≤ a0 ∧ a0 ≤ 255) ∧ (0 ≤ a1 ∧ a1 ≤ 255) ∧ (0 ≤ a2 ∧ a2 ≤ 255) := by
  simp only [Value.okWide, Try.underlying83] at hv
  obtain ⟨cs, rfl, hsz, _⟩ := hv
  rw [show Try.prog.cellsOf 83 = 3 by kernel_rfl] at hsz
  obtain ⟨c0, c1, c2, rfl⟩ := array3b hsz
  obtain ⟨fuel, hf⟩ := h
  obtain ⟨xs, n, _, hx, _, hl, hff⟩ := DataW.trod_array Try.underlying83 hf
  have f0 := hff 0 (by omega)
  have f1 := hff 1 (by omega)
  have f2 := hff 2 (by omega)
  rw [show Try.prog.cellsOf 5 = 1 by kernel_rfl] at f0 f1 f2
  simp only [Value.cells, List.drop_succ_cons, List.drop_zero, List.take_succ_cons, List.take_zero, Nat.mul_one] at f0 f1 f2
  have g : ∀ i, i < 3 → ∃ y, xs[i]? = some y := fun i hi => ⟨xs[i]'(by rw [hl]; exact hi), List.getElem?_eq_getElem _⟩
  obtain ⟨y0, g0⟩ := g 0 (by omega)
  obtain ⟨y1, g1⟩ := g 1 (by omega)
  obtain ⟨y2, g2⟩ := g 2 (by omega)
  rw [g0] at f0
  rw [g1] at f1
  rw [g2] at f2
  obtain ⟨a0, e0, _, w0⟩ := DataW.trod_int Try.underlying5 f0
  obtain ⟨a1, e1, _, w1⟩ := DataW.trod_int Try.underlying5 f1
  obtain ⟨a2, e2, _, w2⟩ := DataW.trod_int Try.underlying5 f2
  simp only [List.cons.injEq, and_true] at e0 e1 e2
  subst e0 e1 e2
  exact ⟨a0, a1, a2, rfl, wf_8 w0, wf_8 w1, wf_8 w2⟩
end
end Go.Proofs.Ytepibjfmeibgcaa
