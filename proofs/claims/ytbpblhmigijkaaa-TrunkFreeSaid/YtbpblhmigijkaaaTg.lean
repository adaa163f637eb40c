/- Trunk: arguments opened. -/
import Derived.Test.YtbpblhmigijkaaaA30
import Derived.Test.YtbpblhmigijkaaaTb
import Derived.Test.YtbpblhmigijkaaaRows
namespace Go.Proofs.Ytbpblhmigijkaaa
open Go.RowKit Go.ChangeShapes Go.WideShapes Go.Deep
set_option linter.unusedVariables false
def Cells {α : Type} [Inhabited α] (w : World) (size : Nat) (enc : α → List DV) (A : Option Addr) (xs : List α) : Prop :=
  0 < xs.length → ∃ b off, A = some ⟨b, off, none⟩ ∧ b < w.heap.size ∧ ∀ i, i < xs.length → ∀ j, j < size → ∃ u, (enc (ix xs i)).getD j default = .v u ∧ u.oneCell' = true ∧ w.cell? ⟨b, off + i * size + j, none⟩ = some u
theorem ix_map {α : Type} [Inhabited α] {f : Nat → α} {n i : Nat} (h : i < n) : ix ((List.range n).map f) i = f i := by
  unfold ix
  rw [List.getD_eq_getElem?_getD, List.getElem?_map, List.getElem?_range h]
  rfl
section
variable {w : World}
theorem ck_holes {n : Nat} {u : Value} (h : CellOk w (n + 1) (.lst (ints 3)) u) : ∃ A c, ∃ xs : List Hol, u = .slice A xs.length c ∧ xs.length ≤ c ∧ c ≤ maxLen ∧ Cells w 3 eH A xs := by
  obtain ⟨A, len, cap, e, h1, h2, h3⟩ := lst_ints h
  rcases Nat.eq_zero_or_pos len with rfl | hp
  · exact ⟨A, cap, [], e, h1, h2, fun h => absurd h (by simp)⟩
  · obtain ⟨b, off, rfl, hb, hc⟩ := h3 hp
    refine ⟨_, cap, (List.range len).map fun i => ⟨celI w b (off + i * 3 + 0), celI w b (off + i * 3 + 1), celI w b (off + i * 3 + 2)⟩, by simpa using e, by simpa using h1, h2, fun _ => ⟨b, off, rfl, hb, fun i hi j hj => ?_⟩⟩
    have hi : i < len := by simpa using hi
    rw [ix_map hi]
    match j, hj with
    | 0, _ => exact ⟨_, rfl, rfl, hc i hi 0 (by omega)⟩
    | 1, _ => exact ⟨_, rfl, rfl, hc i hi 1 (by omega)⟩
    | 2, _ => exact ⟨_, rfl, rfl, hc i hi 2 (by omega)⟩
theorem ck_sizes {n : Nat} {u : Value} (h : CellOk w (n + 1) (.lst (ints 2)) u) : ∃ A c, ∃ xs : List Siz, u = .slice A xs.length c ∧ xs.length ≤ c ∧ c ≤ maxLen ∧ Cells w 2 eZ A xs := by
  obtain ⟨A, len, cap, e, h1, h2, h3⟩ := lst_ints h
  rcases Nat.eq_zero_or_pos len with rfl | hp
  · exact ⟨A, cap, [], e, h1, h2, fun h => absurd h (by simp)⟩
  · obtain ⟨b, off, rfl, hb, hc⟩ := h3 hp
    refine ⟨_, cap, (List.range len).map fun i => ⟨celI w b (off + i * 2 + 0), celI w b (off + i * 2 + 1)⟩, by simpa using e, by simpa using h1, h2, fun _ => ⟨b, off, rfl, hb, fun i hi j hj => ?_⟩⟩
    have hi : i < len := by simpa using hi
    rw [ix_map hi]
    match j, hj with
    | 0, _ => exact ⟨_, rfl, rfl, hc i hi 0 (by omega)⟩
    | 1, _ => exact ⟨_, rfl, rfl, hc i hi 1 (by omega)⟩
theorem ck_spots {n : Nat} {u : Value} (h : CellOk w (n + 1) (.lst (ints 2)) u) : ∃ A c, ∃ xs : List Spt, u = .slice A xs.length c ∧ xs.length ≤ c ∧ c ≤ maxLen ∧ Cells w 2 eS A xs := by
  obtain ⟨A, len, cap, e, h1, h2, h3⟩ := lst_ints h
  rcases Nat.eq_zero_or_pos len with rfl | hp
  · exact ⟨A, cap, [], e, h1, h2, fun h => absurd h (by simp)⟩
  · obtain ⟨b, off, rfl, hb, hc⟩ := h3 hp
    refine ⟨_, cap, (List.range len).map fun i => ⟨celI w b (off + i * 2 + 0), celI w b (off + i * 2 + 1)⟩, by simpa using e, by simpa using h1, h2, fun _ => ⟨b, off, rfl, hb, fun i hi j hj => ?_⟩⟩
    have hi : i < len := by simpa using hi
    rw [ix_map hi]
    match j, hj with
    | 0, _ => exact ⟨_, rfl, rfl, hc i hi 0 (by omega)⟩
    | 1, _ => exact ⟨_, rfl, rfl, hc i hi 1 (by omega)⟩
theorem ck_rgs {n : Nat} {u : Value} (h : CellOk w (n + 1) (.lst (ints 2)) u) : ∃ A c, ∃ xs : List Rg, u = .slice A xs.length c ∧ xs.length ≤ c ∧ c ≤ maxLen ∧ Cells w 2 eG A xs := by
  obtain ⟨A, len, cap, e, h1, h2, h3⟩ := lst_ints h
  rcases Nat.eq_zero_or_pos len with rfl | hp
  · exact ⟨A, cap, [], e, h1, h2, fun h => absurd h (by simp)⟩
  · obtain ⟨b, off, rfl, hb, hc⟩ := h3 hp
    refine ⟨_, cap, (List.range len).map fun i => ⟨celI w b (off + i * 2 + 0), celI w b (off + i * 2 + 1)⟩, by simpa using e, by simpa using h1, h2, fun _ => ⟨b, off, rfl, hb, fun i hi j hj => ?_⟩⟩
    have hi : i < len := by simpa using hi
    rw [ix_map hi]
    match j, hj with
    | 0, _ => exact ⟨_, rfl, rfl, hc i hi 0 (by omega)⟩
    | 1, _ => exact ⟨_, rfl, rfl, hc i hi 1 (by omega)⟩
theorem ck_nums {n : Nat} {u : Value} (h : CellOk w (n + 1) (.lst (ints 1)) u) : ∃ A c, ∃ xs : List Int, u = .slice A xs.length c ∧ xs.length ≤ c ∧ c ≤ maxLen ∧ Cells w 1 eI A xs := by
  obtain ⟨A, len, cap, e, h1, h2, h3⟩ := lst_ints h
  rcases Nat.eq_zero_or_pos len with rfl | hp
  · exact ⟨A, cap, [], e, h1, h2, fun h => absurd h (by simp)⟩
  · obtain ⟨b, off, rfl, hb, hc⟩ := h3 hp
    refine ⟨_, cap, (List.range len).map fun i => celI w b (off + i * 1 + 0), by simpa using e, by simpa using h1, h2, fun _ => ⟨b, off, rfl, hb, fun i hi j hj => ?_⟩⟩
    have hi : i < len := by simpa using hi
    rw [ix_map hi]
    match j, hj with
    | 0, _ => exact ⟨_, rfl, rfl, hc i hi 0 (by omega)⟩
theorem row_tree {n : Nat} {cs : List Value} (h : RowOk w (n + 2) [.int .i64, .int .i64, .int .i64, .int .i64, .int .i64, .int .i64, .lst (ints 3)] cs) : ∃ (t : TreeV) (A : Option Addr) (c : Nat), cs = [.int .i64 t.year, .int .i64 t.glo, .int .i64 t.ghi, .int .i64 t.wlo, .int .i64 t.whi, .int .i64 t.health, .slice A t.holes.length c] ∧ t.holes.length ≤ c ∧ c ≤ maxLen ∧ Cells w 3 eH A t.holes ∧ (Lit.int .i64 t.year).wf = true ∧ (Lit.int .i64 t.glo).wf = true ∧ (Lit.int .i64 t.ghi).wf = true ∧ (Lit.int .i64 t.wlo).wf = true ∧ (Lit.int .i64 t.whi).wf = true ∧ (Lit.int .i64 t.health).wf = true := by
  obtain ⟨hl, hc⟩ := h
  match cs, hl with
  | [u0, u1, u2, u3, u4, u5, u6], _ =>
    obtain ⟨z0, e0, w0⟩ := hc 0 _ _ rfl rfl
    obtain ⟨z1, e1, w1⟩ := hc 1 _ _ rfl rfl
    obtain ⟨z2, e2, w2⟩ := hc 2 _ _ rfl rfl
    obtain ⟨z3, e3, w3⟩ := hc 3 _ _ rfl rfl
    obtain ⟨z4, e4, w4⟩ := hc 4 _ _ rfl rfl
    obtain ⟨z5, e5, w5⟩ := hc 5 _ _ rfl rfl
    obtain ⟨A, c, xs, e6, h1, h2, h3⟩ := ck_holes (hc 6 _ _ rfl rfl)
    subst e0 e1 e2 e3 e4 e5 e6
    exact ⟨⟨z0, z1, z2, z3, z4, z5, xs⟩, A, c, rfl, h1, h2, h3, w0, w1, w2, w3, w4, w5⟩
theorem row_rule {n : Nat} {cs : List Value} (h : RowOk w (n + 2) [.int .i64, .int .i64, .int .i64, .int .i64, .int .i64, .int .i64, .int .i64, .int .i64, .int .i64, .lst (ints 2), .int .i64, .int .i64, .int .i64, .int .i64, .int .i64, .int .i64] cs) : ∃ (t : RuleV) (A : Option Addr) (c : Nat), cs = [.int .i64 t.slo, .int .i64 t.shi, .int .i64 t.ulo, .int .i64 t.uhi, .int .i64 t.hlo, .int .i64 t.hhi, .int .i64 t.apart, .int .i64 t.blo, .int .i64 t.bhi, .slice A t.sizes.length c, .int .i64 t.n0, .int .i64 t.n1, .int .i64 t.n2, .int .i64 t.n3, .int .i64 t.n4, .int .i64 t.opn] ∧ t.sizes.length ≤ c ∧ c ≤ maxLen ∧ Cells w 2 eZ A t.sizes ∧ (Lit.int .i64 t.slo).wf = true ∧ (Lit.int .i64 t.shi).wf = true ∧ (Lit.int .i64 t.ulo).wf = true ∧ (Lit.int .i64 t.uhi).wf = true ∧ (Lit.int .i64 t.hlo).wf = true ∧ (Lit.int .i64 t.hhi).wf = true ∧ (Lit.int .i64 t.apart).wf = true ∧ (Lit.int .i64 t.blo).wf = true ∧ (Lit.int .i64 t.bhi).wf = true ∧ (Lit.int .i64 t.n0).wf = true ∧ (Lit.int .i64 t.n1).wf = true ∧ (Lit.int .i64 t.n2).wf = true ∧ (Lit.int .i64 t.n3).wf = true ∧ (Lit.int .i64 t.n4).wf = true ∧ (Lit.int .i64 t.opn).wf = true := by
  obtain ⟨hl, hc⟩ := h
  match cs, hl with
  | [u0, u1, u2, u3, u4, u5, u6, u7, u8, u9, u10, u11, u12, u13, u14, u15], _ =>
    obtain ⟨z0, e0, w0⟩ := hc 0 _ _ rfl rfl
    obtain ⟨z1, e1, w1⟩ := hc 1 _ _ rfl rfl
    obtain ⟨z2, e2, w2⟩ := hc 2 _ _ rfl rfl
    obtain ⟨z3, e3, w3⟩ := hc 3 _ _ rfl rfl
    obtain ⟨z4, e4, w4⟩ := hc 4 _ _ rfl rfl
    obtain ⟨z5, e5, w5⟩ := hc 5 _ _ rfl rfl
    obtain ⟨z6, e6, w6⟩ := hc 6 _ _ rfl rfl
    obtain ⟨z7, e7, w7⟩ := hc 7 _ _ rfl rfl
    obtain ⟨z8, e8, w8⟩ := hc 8 _ _ rfl rfl
    obtain ⟨A, c, xs, e9, h1, h2, h3⟩ := ck_sizes (hc 9 _ _ rfl rfl)
    obtain ⟨z10, e10, w10⟩ := hc 10 _ _ rfl rfl
    obtain ⟨z11, e11, w11⟩ := hc 11 _ _ rfl rfl
    obtain ⟨z12, e12, w12⟩ := hc 12 _ _ rfl rfl
    obtain ⟨z13, e13, w13⟩ := hc 13 _ _ rfl rfl
    obtain ⟨z14, e14, w14⟩ := hc 14 _ _ rfl rfl
    obtain ⟨z15, e15, w15⟩ := hc 15 _ _ rfl rfl
    subst e0 e1 e2 e3 e4 e5 e6 e7 e8 e9 e10 e11 e12 e13 e14 e15
    exact ⟨⟨z0, z1, z2, z3, z4, z5, z6, z7, z8, xs, z10, z11, z12, z13, z14, z15⟩, A, c, rfl, h1, h2, h3, w0, w1, w2, w3, w4, w5, w6, w7, w8, w10, w11, w12, w13, w14, w15⟩
end
end Go.Proofs.Ytbpblhmigijkaaa
