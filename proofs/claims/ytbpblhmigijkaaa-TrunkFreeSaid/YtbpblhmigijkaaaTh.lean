/- Trunk: more arguments opened. -/
import Derived.Test.YtbpblhmigijkaaaTg
import Derived.Test.YtbpblhmigijkaaaA28
namespace Go.Proofs.Ytbpblhmigijkaaa
open Go.RowKit Go.ChangeShapes Go.WideShapes Go.Deep
set_option linter.unusedVariables false
section
variable {H : Type} {enc : TypeId × Value → H} {P : Program} {w : World} {base : Nat} {spare : Nat → Bool} {held : Bool}
theorem open_ar {n m : Nat} {t e : TypeId} {ks : List CK} {r : Reach} {b0 : Nat} {v : Value} {d : DataW H} {p : List MemPlace} (hs : P.underlying t = some (.array m e)) (hk : shapeT P n t = some ks) (hv : Value.okWide P w r b0 t v) (h : DataW.Trod enc P w base spare held t v d p) :
    ∃ cs : List Value, v = .agg cs.toArray ∧ RowOk w n ks cs := by
  simp only [Value.okWide, hs] at hv
  obtain ⟨cs, rfl, _⟩ := hv
  obtain ⟨fuel, hf⟩ := h
  exact ⟨cs.toList, by simp, trod_shape hk hf⟩
theorem okWide_cells {t e : TypeId} {r : Reach} {b0 : Nat} {v : Value} (hs : P.underlying t = some (.slice e)) (hv : Value.okWide P w r b0 t v) : v.cells.toList = [v] := by
  obtain ⟨a, len, cap, rfl⟩ := okWide_slice hs hv
  rfl
theorem bounds_u8 {n : Int} (h : (Lit.int .u8 n).wf = true) : 0 ≤ n ∧ n < 256 := by
  simp [Lit.wf, IntKind.min, IntKind.max, IntKind.signed, IntKind.bits] at h
  omega
theorem ck_plan {n : Nat} {u : Value} (h : CellOk w (n + 2) (.lst [.lst (ints 2)]) u) : ∃ A c, ∃ xss : List (List Spt), u = .slice A xss.length c ∧ xss.length ≤ c ∧ c ≤ maxLen ∧ (∀ l, l ∈ xss → l.length ≤ maxLen) ∧ ((Cn.ro 1 xss.length (LstL 2 eS xss)).owned = false ∧ ∀ ν, (Cn.ro 1 xss.length (LstL 2 eS xss)).holds ν w (fun b => 0 ≤ b ∧ b < w.heap.size) (.slice A xss.length c)) := by
  obtain ⟨A, len, cap, e, h1, h2, h3⟩ := h
  rcases Nat.eq_zero_or_pos len with rfl | hp
  · exact ⟨A, cap, [], e, h1, h2, fun l hl => (by cases hl), rfl, fun ν => ⟨A, cap, rfl, Nat.zero_le _, fun h => absurd h (by simp)⟩⟩
  · obtain ⟨b, off, rfl, hb, hc⟩ := h3 hp
    have key : ∀ i, ∃ xs : List Spt, i < len → ∃ B c, w.cell? ⟨b, off + i, none⟩ = some (.slice B xs.length c) ∧ xs.length ≤ c ∧ c ≤ maxLen ∧ Cells w 2 eS B xs := fun i => by
      by_cases hi : i < len
      · obtain ⟨cs, q1, q2, q3⟩ := hc i hi
        have q1 : cs.length = 1 := q1
        have hu : cs[0]? = some cs[0] := List.getElem?_eq_getElem (by omega)
        obtain ⟨B, c, xs, e1, e2, e3, e4⟩ := ck_spots (q3 0 _ _ rfl hu)
        refine ⟨xs, fun _ => ⟨B, c, ?_, e2, e3, e4⟩⟩
        have := q2 0 (by simp)
        rw [hu, e1] at this
        simpa using this
      · exact ⟨[], fun h => absurd h hi⟩
    obtain ⟨f, hf⟩ := Classical.axiomOfChoice key
    refine ⟨_, cap, (List.range len).map f, by simpa using e, by simpa using h1, h2, fun l hl => ?_, rfl, fun ν => ⟨_, cap, rfl, by simpa using h1, fun _ => ⟨b, off, rfl, ⟨Nat.zero_le _, hb⟩, fun i hi j hj => ?_⟩⟩⟩
    · obtain ⟨i, hi, rfl⟩ := List.mem_map.1 hl
      obtain ⟨B, c, _, q2, q3, _⟩ := hf i (List.mem_range.1 hi)
      omega
    · have hi : i < len := by simpa using hi
      obtain ⟨B, c, q1, q2, q3, q4⟩ := hf i hi
      obtain rfl : j = 0 := by omega
      refine ⟨_, by simpa using q1, ?_⟩
      show DV.rep w _ (.ls 2 (ix ((List.range len).map f) i).length (Lst eS (ix ((List.range len).map f) i))) _
      rw [ix_map hi]
      refine ⟨B, c, rfl, q2, fun h0 => ?_⟩
      obtain ⟨b', off', rfl, hb', hc'⟩ := q4 h0
      refine ⟨b', off', rfl, ⟨Nat.zero_le _, hb'⟩, fun k hk l hl => ?_⟩
      obtain ⟨u, g1, g2, g3⟩ := hc' k hk l hl
      refine ⟨u, g3, ?_⟩
      unfold Lst
      rw [g1]
      exact ⟨rfl, g2⟩
end
end Go.Proofs.Ytbpblhmigijkaaa
