/- Trunk: arguments opened: bytes. -/
import Derived.Test.YtbpblhmigijkaaaTh
import Derived.Test.YtbpblhmigijkaaaTfh
namespace Go.Proofs.Ytbpblhmigijkaaa
open Go.RowKit Go.ChangeShapes Go.WideShapes Go.Deep
set_option linter.unusedVariables false
def bytes (m : Nat) : List CK := List.replicate m (.int .u8)
theorem ck_bytes {w : World} {n : Nat} {u : Value} (h : CellOk w (n + 2) (.lst (bytes 1)) u) : ∃ A c, ∃ xs : List Int, u = .slice A xs.length c ∧ xs.length ≤ c ∧ c ≤ maxLen ∧ Cells w 1 eU A xs ∧ ∀ q, q ∈ xs → 0 ≤ q ∧ q < 256 := by
  obtain ⟨A, len, cap, e, h1, h2, h3⟩ := h
  rcases Nat.eq_zero_or_pos len with rfl | hp
  · exact ⟨A, cap, [], e, h1, h2, fun h => absurd h (by simp), fun q hq => (by cases hq)⟩
  · obtain ⟨b, off, rfl, hb, hc⟩ := h3 hp
    have key : ∀ i, ∃ z : Int, i < len → w.cell? ⟨b, off + i, none⟩ = some (.int .u8 z) ∧ 0 ≤ z ∧ z < 256 := fun i => by
      by_cases hi : i < len
      · obtain ⟨cs, q1, q2, q3⟩ := hc i hi
        have q1 : cs.length = 1 := q1
        have hu : cs[0]? = some cs[0] := List.getElem?_eq_getElem (by omega)
        obtain ⟨z, e1, e2⟩ := q3 0 _ _ rfl hu
        refine ⟨z, fun _ => ⟨?_, bounds_u8 e2⟩⟩
        have := q2 0 (by simp [bytes])
        rw [hu, e1] at this
        simpa [bytes] using this
      · exact ⟨0, fun h => absurd h hi⟩
    obtain ⟨f, hf⟩ := Classical.axiomOfChoice key
    refine ⟨_, cap, (List.range len).map f, by simpa using e, by simpa using h1, h2, fun _ => ⟨b, off, rfl, hb, fun i hi j hj => ?_⟩, fun q hq => ?_⟩
    · have hi : i < len := by simpa using hi
      obtain rfl : j = 0 := by omega
      rw [ix_map hi]
      exact ⟨_, rfl, rfl, by simpa using (hf i hi).1⟩
    · obtain ⟨i, hi, rfl⟩ := List.mem_map.1 hq
      exact (hf i (List.mem_range.1 hi)).2
end Go.Proofs.Ytbpblhmigijkaaa
