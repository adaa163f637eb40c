/- More arguments opened: slices of ints, of ranges and of bores, Frosts. -/
import Derived.Test.YtepibjfmeibgcaaSh
namespace Go.Proofs.Ytepibjfmeibgcaa
open Go.RowKit Go.ChangeShapes Go.WideShapes Go.Deep Go.Joins
section
variable {H : Type} {enc : TypeId × Value → H} {w : World} {base : Nat} {spare : Nat → Bool} {held : Bool}
theorem rd_ints {fuel : Nat} {cs : List Value} {x : DataW H × List MemPlace} (h : DataW.trod enc Try.prog w base spare held fuel 31 cs = some x) :
    ∃ (A : Option Addr) (xs : List Int) (c : Nat), cs = [.slice A xs.length c] ∧ xs.length ≤ c ∧ c ≤ maxLen ∧ RdI w 0 w.heap.size A xs := by
  rcases open_slice Try.underlying31 h with ⟨h0, _⟩ | ⟨a, len, cap, m, n, D, Pl, hcs, hb, hl, hm, hmm, hx, hi⟩
  · exact ⟨none, [], 0, h0, Nat.zero_le _, Nat.zero_le _, Rd.nil⟩
  · have key : ∀ i, i < len → ∃ k, w.cell? (a.add i) = some (.int .i64 k) := fun i hil => by
      obtain ⟨cs', hc, ht'⟩ := hi i (by rw [hmm]; split <;> omega)
      obtain ⟨k, e0, _⟩ := DataW.trod_int Try.underlying3 ht'
      rw [show Try.prog.cellsOf 3 = 1 by kernel_rfl, Nat.mul_one] at hc
      obtain ⟨_, hcl, hat⟩ := World.cells?_some hc
      refine ⟨k, ?_⟩
      have h2 := hat 0 (by omega)
      rw [e0, Go.Deep.add_add, Nat.add_zero] at h2
      exact h2
    rcases Nat.eq_zero_or_pos len with rfl | hp
    · exact ⟨some a, [], cap, hcs, Nat.zero_le _, hm, Rd.nil⟩
    · obtain ⟨b, off, spot⟩ := a
      obtain ⟨k, hk⟩ := key 0 hp
      have hspot : spot = none := by simpa [Addr.add] using World.cell?_spot hk
      subst hspot
      have hbl : b < w.heap.size := by have := World.block_lt_of_cell? w _ hk; simpa [Addr.add] using this
      refine ⟨some ⟨b, off, none⟩, (List.range len).map (fun i => decI w b (off + i)), cap, by simpa using hcs, by simpa using hl, hm, fun _ => ⟨b, off, rfl, Nat.zero_le _, hbl, fun i y hy j u hu => ?_⟩⟩
      rw [List.getElem?_map] at hy
      have hil : i < len := by
        rcases Nat.lt_or_ge i len with h | h
        · exact h
        · rw [List.getElem?_eq_none (by simpa using h)] at hy; cases hy
      rw [List.getElem?_range hil] at hy
      cases hy
      match j, hu with
      | 0, hu =>
        simp [encI] at hu
        subst hu
        obtain ⟨k, hk⟩ := key i hil
        have e : ((⟨b, off, none⟩ : Addr).add i) = ⟨b, off + i, none⟩ := by
          unfold Addr.add; split
          · rename_i h0; rw [show off + i = off by omega]
          · rfl
        rw [e] at hk
        simpa using decI_eq hk
set_option maxRecDepth 100000 in
theorem open_ranges {r : Reach} {b0 : Nat} {v : Value} {d : DataW H} {p : List MemPlace} (hv : Value.okWide Try.prog w r b0 25 v) (h : DataW.Trod enc Try.prog w base spare held 25 v d p) :
    ∃ (A : Option Addr) (xs : List Rng) (c : Nat), v = .slice A xs.length c ∧ xs.length ≤ c ∧ c ≤ maxLen ∧ RdR w 0 w.heap.size A xs := by
  obtain ⟨a, l, c0, rfl⟩ := okWide_slice Try.underlying25 hv
  obtain ⟨fuel, hf⟩ := h
  obtain ⟨A, xs, c, e, h1, h2, h3⟩ := rd_ranges hf
  have e' : Value.slice a l c0 = Value.slice A xs.length c := by simpa [Value.cells] using e
  exact ⟨A, xs, c, e', h1, h2, h3⟩
theorem array7 {cs : Array Value} (h : cs.size = 7) : ∃ c0 c1 c2 c3 c4 c5 c6, cs = #[c0, c1, c2, c3, c4, c5, c6] := by
  obtain ⟨l⟩ := cs
  match l, h with
  | [c0, c1, c2, c3, c4, c5, c6], _ => exact ⟨c0, c1, c2, c3, c4, c5, c6, rfl⟩
theorem trod_field {P : Program} {fs : Array Field} {cs : List Value} {xs : List (DataW H × List MemPlace)} {n : Nat} (hff : ∀ (i : Nat) (f : Field), fs[i]? = some f → DataW.trod enc P w base spare held n f.type ((cs.drop f.offset).take (P.cellsOf f.type)) = xs[i]?)
    (i : Nat) (t : TypeId) (o k : Nat) (h : ∃ f, fs[i]? = some f ∧ f.type = t ∧ f.offset = o) (hk : P.cellsOf t = k) : DataW.trod enc P w base spare held n t ((cs.drop o).take k) = xs[i]? := by
  obtain ⟨f, h1, rfl, rfl⟩ := h
  rw [← hk]
  exact hff i f h1
set_option maxRecDepth 100000 in
theorem open_frosts {r : Reach} {b0 : Nat} {v : Value} {d : DataW H} {p : List MemPlace} (hv : Value.okWide Try.prog w r b0 63 v) (h : DataW.Trod enc Try.prog w base spare held 63 v d p) :
    ∃ (C : Option Addr) (zs : List Int) (cz : Nat) (q : Pipe) (fl : Int), v = .agg #[.slice C zs.length cz, .int .i64 q.parent, .int .i64 q.length, .int .i64 q.bore, .int .i64 q.drop, .int .i64 q.taps, .int .i64 fl] ∧ zs.length ≤ cz ∧ cz ≤ maxLen ∧ RdI w 0 w.heap.size C zs := by
  obtain ⟨cs, rfl, hsz⟩ := okWide_struct Try.underlying63 hv
  rw [show Try.prog.cellsOf 63 = 7 by kernel_rfl] at hsz
  obtain ⟨c0, c1, c2, c3, c4, c5, c6, rfl⟩ := array7 hsz
  obtain ⟨fuel, hf⟩ := h
  obtain ⟨xs, n, _, hx, _, hl, hff⟩ := DataW.trod_struct Try.underlying63 hf
  have f0 := trod_field hff 0 31 0 1 ⟨_, rfl, rfl, rfl⟩ (by kernel_rfl)
  have f1 := trod_field hff 1 54 1 5 ⟨_, rfl, rfl, rfl⟩ (by kernel_rfl)
  have f2 := trod_field hff 2 3 6 1 ⟨_, rfl, rfl, rfl⟩ (by kernel_rfl)
  simp only [Value.cells, List.drop_succ_cons, List.drop_zero, List.take_succ_cons, List.take_zero] at f0 f1 f2
  have g : ∀ i, i < 3 → ∃ y, xs[i]? = some y := fun i hi => ⟨xs[i]'(by rw [hl]; exact hi), List.getElem?_eq_getElem _⟩
  obtain ⟨y0, g0⟩ := g 0 (by omega)
  obtain ⟨y1, g1⟩ := g 1 (by omega)
  obtain ⟨y2, g2⟩ := g 2 (by omega)
  rw [g0] at f0
  rw [g1] at f1
  rw [g2] at f2
  obtain ⟨C, zs, cz, e0, h1, h2, h3⟩ := rd_ints f0
  obtain ⟨fl, e2, _⟩ := DataW.trod_int Try.underlying3 f2
  obtain ⟨ys, m, _, hy, _, hl5, hgg⟩ := DataW.trod_struct Try.underlying54 f1
  have k0 := trod_field hgg 0 3 0 1 ⟨_, rfl, rfl, rfl⟩ (by kernel_rfl)
  have k1 := trod_field hgg 1 3 1 1 ⟨_, rfl, rfl, rfl⟩ (by kernel_rfl)
  have k2 := trod_field hgg 2 3 2 1 ⟨_, rfl, rfl, rfl⟩ (by kernel_rfl)
  have k3 := trod_field hgg 3 3 3 1 ⟨_, rfl, rfl, rfl⟩ (by kernel_rfl)
  have k4 := trod_field hgg 4 3 4 1 ⟨_, rfl, rfl, rfl⟩ (by kernel_rfl)
  simp only [List.drop_succ_cons, List.drop_zero, List.take_succ_cons, List.take_zero] at k0 k1 k2 k3 k4
  have gg : ∀ i, i < 5 → ∃ y, ys[i]? = some y := fun i hi => ⟨ys[i]'(by rw [hl5]; exact hi), List.getElem?_eq_getElem _⟩
  obtain ⟨z0, j0⟩ := gg 0 (by omega)
  obtain ⟨z1, j1⟩ := gg 1 (by omega)
  obtain ⟨z2, j2⟩ := gg 2 (by omega)
  obtain ⟨z3, j3⟩ := gg 3 (by omega)
  obtain ⟨z4, j4⟩ := gg 4 (by omega)
  rw [j0] at k0
  rw [j1] at k1
  rw [j2] at k2
  rw [j3] at k3
  rw [j4] at k4
  obtain ⟨a0, q0, _⟩ := DataW.trod_int Try.underlying3 k0
  obtain ⟨a1, q1, _⟩ := DataW.trod_int Try.underlying3 k1
  obtain ⟨a2, q2, _⟩ := DataW.trod_int Try.underlying3 k2
  obtain ⟨a3, q3, _⟩ := DataW.trod_int Try.underlying3 k3
  obtain ⟨a4, q4, _⟩ := DataW.trod_int Try.underlying3 k4
  simp only [List.cons.injEq, and_true] at e0 e2 q0 q1 q2 q3 q4
  subst e0 e2 q0 q1 q2 q3 q4
  exact ⟨C, zs, cz, ⟨a0, a1, a2, a3, a4⟩, fl, rfl, h1, h2, h3⟩
end
end Go.Proofs.Ytepibjfmeibgcaa
