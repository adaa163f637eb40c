/- Arguments opened: what is wanted of a plan. -/
import Derived.Test.YtepibjfmeibgcaaPn
import Derived.Test.YtepibjfmeibgcaaSo
namespace Go.Proofs.Ytepibjfmeibgcaa
open Go.RowKit Go.ChangeShapes Go.WideShapes Go.ChangeAt Go.Deep Go.Joins
section
variable {w : World} {ν : Nat → Value} {A : Option Addr} {c n : Nat}
theorem ro_O {xs : List Bor} (hn : n = xs.length) (hc : xs.length ≤ c) (h : RdO w 0 w.heap.size A xs) : (Cn.ro 2 n (Lst eO xs)).owned = false ∧ (Cn.ro 2 n (Lst eO xs)).holds ν w (fun b => 0 ≤ b ∧ b < w.heap.size) (.slice A n c) :=
  ⟨rfl, rep_of_rd heO (fun _ => rfl) (fun x u hu => by simp [encO] at hu; rcases hu with rfl | rfl <;> rfl) hn hc h⟩
end
section
variable {H : Type} {enc : TypeId × Value → H} {w : World} {base : Nat} {spare : Nat → Bool} {held : Bool}
set_option maxRecDepth 100000 in
theorem open_wanted {r : Reach} {b0 : Nat} {v : Value} {d : DataW H} {p : List MemPlace} (hv : Value.okWide Try.prog w r b0 28 v) (h : DataW.Trod enc Try.prog w base spare held 28 v d p) :
    ∃ (A : Option Addr) (xs : List Bor) (c : Nat) (need : Int), v = .agg #[.slice A xs.length c, .int .i64 need] ∧ xs.length ≤ c ∧ c ≤ maxLen ∧ RdO w 0 w.heap.size A xs := by
  obtain ⟨c0, c1, y0, y1, m, rfl, _, _, hy0, hy1⟩ := open_agg2 Try.underlying28 (by kernel_rfl) (by kernel_rfl) hv h
  obtain ⟨A, xs, c, e1, h1, h2, h3⟩ := rd_bores hy0
  obtain ⟨a, e0, _⟩ := DataW.trod_int Try.underlying3 hy1
  simp only [List.cons.injEq, and_true] at e0 e1
  subst e0 e1
  exact ⟨A, xs, c, a, rfl, h1, h2, h3⟩
end
end Go.Proofs.Ytepibjfmeibgcaa
