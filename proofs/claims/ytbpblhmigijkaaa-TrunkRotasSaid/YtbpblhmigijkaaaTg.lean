/- Trunk: arguments opened. -/
import Derived.Test.YtbpblhmigijkaaaA30
import Derived.Test.YtbpblhmigijkaaaTb
import Derived.Test.YtbpblhmigijkaaaRows
namespace Go.Proofs.Ytbpblhmigijkaaa
open Go.RowKit Go.ChangeShapes Go.WideShapes Go.Deep
set_option linter.unusedVariables false
def Cells {α : Type} [Inhabited α] (w : World) (size : Nat) (enc : α → List DV) (A : Option Addr) (xs : List α) : Prop :=
 0 < xs.length → ∃ b off, A = some ⟨b, off, none⟩ ∧ b < w.heap.size ∧ ∀ i, i < xs.length → ∀ j, j < size → ∃ u, (enc (ix xs i)).getD j default = .v u ∧ u.oneCell' = true ∧ w.cell? ⟨b, off + i * size + j, none⟩ = some u
theorem ix_map {α : Type} [Inhabited α] {f : Nat → α} {n i : Nat} (h : i < n) : ix ((List.range n).map f) i = f i := by
 unfold ix
 rw [List.getD_eq_getElem?_getD, List.getElem?_map, List.getElem?_range h]
 rfl
section
variable {w : World}
theorem ck_holes {n : Nat} {u : Value} (h : CellOk w (n + 1) (.lst (ints 3)) u) : ∃ A c, ∃ xs : List Hol, u = .slice A xs.length c ∧ xs.length ≤ c ∧ c ≤ maxLen ∧ Cells w 3 eH A xs := by
 obtain ⟨A, len, cap, e, h1, h2, h3⟩ := lst_ints h
 rcases Nat.eq_zero_or_pos len with rfl | hp
 ·exact ⟨A, cap, [], e, h1, h2, fun h => absurd h (by simp)⟩
 ·obtain ⟨b, off, rfl, hb, hc⟩ := h3 hp
  refine ⟨_, cap, (List.range len).map fun i => ⟨celI w b (off + i * 3 + 0), celI w b (off + i * 3 + 1), celI w b (off + i * 3 + 2)⟩, by simpa using e, by simpa using h1, h2, fun _ => ⟨b, off, rfl, hb, fun i hi j hj => ?_⟩⟩
  have hi : i < len := by simpa using hi
  rw [ix_map hi]
  match j, hj with
  | 0, _ => exact ⟨_, rfl, rfl, hc i hi 0 (by omega)⟩
  | 1, _ => exact ⟨_, rfl, rfl, hc i hi 1 (by omega)⟩
  | 2, _ => exact ⟨_, rfl, rfl, hc i hi 2 (by omega)⟩
theorem ck_sizes {n : Nat} {u : Value} (h : CellOk w (n + 1) (.lst (ints 2)) u) : ∃ A c, ∃ xs : List Siz, u = .slice A xs.length c ∧ xs.length ≤ c ∧ c ≤ maxLen ∧ Cells w 2 eZ A xs := by
 obtain ⟨A, len, cap, e, h1, h2, h3⟩ := lst_ints h
 rcases Nat.eq_zero_or_pos len with rfl | hp
 ·exact ⟨A, cap, [], e, h1, h2, fun h => absurd h (by simp)⟩
 ·obtain ⟨b, off, rfl, hb, hc⟩ := h3 hp
  refine ⟨_, cap, (List.range len).map fun i => ⟨celI w b (off + i * 2 + 0), celI w b (off + i * 2 + 1)⟩, by simpa using e, by simpa using h1, h2, fun _ => ⟨b, off, rfl, hb, fun i hi j hj => ?_⟩⟩
  have hi : i < len := by simpa using hi
  rw [ix_map hi]
  match j, hj with
  | 0, _ => exact ⟨_, rfl, rfl, hc i hi 0 (by omega)⟩
  | 1, _ => exact ⟨_, rfl, rfl, hc i hi 1 (by omega)⟩
theorem ck_nums {n : Nat} {u : Value} (h : CellOk w (n + 1) (.lst (ints 1)) u) : ∃ A c, ∃ xs : List Int, u = .slice A xs.length c ∧ xs.length ≤ c ∧ c ≤ maxLen ∧ Cells w 1 eI A xs := by
 obtain ⟨A, len, cap, e, h1, h2, h3⟩ := lst_ints h
 rcases Nat.eq_zero_or_pos len with rfl | hp
 ·exact ⟨A, cap, [], e, h1, h2, fun h => absurd h (by simp)⟩
 ·obtain ⟨b, off, rfl, hb, hc⟩ := h3 hp
  refine ⟨_, cap, (List.range len).map fun i => celI w b (off + i * 1 + 0), by simpa using e, by simpa using h1, h2, fun _ => ⟨b, off, rfl, hb, fun i hi j hj => ?_⟩⟩
  have hi : i < len := by simpa using hi
  rw [ix_map hi]
  match j, hj with
  | 0, _ => exact ⟨_, rfl, rfl, hc i hi 0 (by omega)⟩
end
end Go.Proofs.Ytbpblhmigijkaaa
