/- Arguments opened: structs and slices of structs of ints, as the walks want them. -/
import Derived.Test.YtepibjfmeibgcaaWp
import Derived.Test.YtepibjfmeibgcaaRows
import Derived.WalkKit
import Derived.ProofKit
import Derived.OpenShut
import Derived.ChangeOld
import Derived.Below
import Derived.Deep.Slices
import Derived.Deep.Fields
import Derived.ChangeSame
import Derived.Lib.SmallJoins
namespace Go.Proofs.Ytepibjfmeibgcaa
open Go.RowKit Go.ChangeShapes Go.WideShapes Go.Deep Go.Joins
theorem own_none : ownKnob Try.prog.godebug = none := by kernel_rfl
theorem laid_out : laidOutB Try.prog = true := by kernel_rfl
section
variable {H : Type} {enc : TypeId × Value → H} {P : Program} {w : World} {base : Nat} {spare : Nat → Bool} {held : Bool}
/-- What a cell holds, if it is an int. -/
def decI (w : World) (b o : Nat) : Int := match w.cell? ⟨b, o, none⟩ with | some (.int .i64 n) => n | _ => 0
theorem decI_eq {b o : Nat} {n : Int} (h : w.cell? ⟨b, o, none⟩ = some (.int .i64 n)) : w.cell? ⟨b, o, none⟩ = some (.int .i64 (decI w b o)) := by unfold decI; rw [h]
theorem open_fields {t e : TypeId} {fs : Array Field} {fuel : Nat} {cs : List Value} {x : DataW H × List MemPlace} (ht : P.underlying t = some (.slice e)) (he : P.underlying e = some (.struct fs))
    (hone : oneCellFields P fs = true) (hC : P.cellsOf e = fs.size) (hf : 0 < fs.size) (hint : ∀ f ∈ fs, P.underlying f.type = some (.int .i64)) (h : DataW.trod enc P w base spare held fuel t cs = some x) :
    ∃ (A : Option Addr) (len cap : Nat), cs = [.slice A len cap] ∧ len ≤ cap ∧ cap ≤ maxLen ∧ (0 < len → ∃ b off, A = some ⟨b, off, none⟩ ∧ b < w.heap.size ∧ ∀ i j, i < len → j < fs.size → w.cell? ⟨b, off + i * fs.size + j, none⟩ = some (.int .i64 (decI w b (off + i * fs.size + j)))) := by
  rcases open_slice ht h with ⟨h0, _⟩ | ⟨a, len, cap, m, n, D, Pl, hcs, hb, hl, hm, hmm, hx, hi⟩
  · exact ⟨none, 0, 0, h0, Nat.le_refl _, Nat.zero_le _, fun h => absurd h (by omega)⟩
  · refine ⟨some a, len, cap, hcs, hl, hm, fun hpos => ?_⟩
    have key : ∀ i j, i < len → j < fs.size → ∃ k, w.cell? (a.add (i * fs.size + j)) = some (.int .i64 k) := fun i j hil hjl => by
      obtain ⟨cs', hc, ht'⟩ := hi i (by rw [hmm]; split <;> omega)
      rw [hC] at hc
      obtain ⟨ys, n', hn', hy, hlen, hyl, hff⟩ := DataW.trod_struct he ht'
      obtain ⟨_, hcl, hat⟩ := World.cells?_some hc
      obtain ⟨ho, hk⟩ := hone_of hone j fs[j] (Array.getElem?_eq_getElem hjl)
      have hcell := hat j hjl
      have h1 := hff j fs[j] (Array.getElem?_eq_getElem hjl)
      rw [ho, hk] at h1
      have hone' : (cs'.drop j).take 1 = [cs'[j]'(by omega)] := by
        rw [List.drop_eq_getElem_cons (by omega)]
        rfl
      rw [hone'] at h1
      have hys : ys[j]? = some (ys[j]'(by omega)) := List.getElem?_eq_getElem (by omega)
      rw [hys] at h1
      obtain ⟨k, e0, _⟩ := DataW.trod_int (hint _ (Array.getElem_mem hjl)) h1
      simp only [List.cons.injEq, and_true] at e0
      exact ⟨k, by rw [← Go.Deep.add_add, hcell, List.getElem?_eq_getElem (by omega), e0]⟩
    obtain ⟨b, off, spot⟩ := a
    obtain ⟨k, hk⟩ := key 0 0 hpos hf
    have hspot : spot = none := by simpa [Addr.add] using World.cell?_spot hk
    subst hspot
    refine ⟨b, off, rfl, by have := World.block_lt_of_cell? w _ hk; simpa [Addr.add] using this, fun i j hil hjl => ?_⟩
    obtain ⟨k, hk⟩ := key i j hil hjl
    have e : ((⟨b, off, none⟩ : Addr).add (i * fs.size + j)) = ⟨b, off + i * fs.size + j, none⟩ := by
      unfold Addr.add; split
      · rename_i h0; rw [show off + i * fs.size + j = off by omega]
      · rw [Nat.add_assoc]
    rw [e] at hk
    exact decI_eq hk
end
section
variable {H : Type} {enc : TypeId × Value → H} {w : World} {base : Nat} {spare : Nat → Bool} {held : Bool}
theorem rd_pipes {fuel : Nat} {cs : List Value} {x : DataW H × List MemPlace} (h : DataW.trod enc Try.prog w base spare held fuel 22 cs = some x) :
    ∃ (A : Option Addr) (xs : List Pipe) (c : Nat), cs = [.slice A xs.length c] ∧ xs.length ≤ c ∧ c ≤ maxLen ∧ RdP w 0 w.heap.size A xs := by
  obtain ⟨A, len, cap, rfl, h1, h2, h3⟩ := open_fields Try.underlying22 Try.underlying54 (by kernel_rfl) (by kernel_rfl) (by decide) (by simp [Try.underlying3]) h
  rcases Nat.eq_zero_or_pos len with rfl | hp
  · exact ⟨A, [], cap, rfl, Nat.zero_le _, h2, Rd.nil⟩
  · obtain ⟨b, off, rfl, hb, hc⟩ := h3 hp
    refine ⟨_, (List.range len).map (fun i => ⟨decI w b (off + i * 5 + 0), decI w b (off + i * 5 + 1), decI w b (off + i * 5 + 2), decI w b (off + i * 5 + 3), decI w b (off + i * 5 + 4)⟩), cap, by simp, by simpa using h1, h2, fun _ => ⟨b, off, rfl, Nat.zero_le _, hb, fun i y hy j u hu => ?_⟩⟩
    rw [List.getElem?_map] at hy
    have hil : i < len := by
      rcases Nat.lt_or_ge i len with h | h
      · exact h
      · rw [List.getElem?_eq_none (by simpa using h)] at hy; cases hy
    rw [List.getElem?_range hil] at hy
    cases hy
    match j, hu with
    | 0, hu | 1, hu | 2, hu | 3, hu | 4, hu => simp [encP] at hu; subst hu; exact hc i _ hil (by decide)
theorem rd_ranges {fuel : Nat} {cs : List Value} {x : DataW H × List MemPlace} (h : DataW.trod enc Try.prog w base spare held fuel 25 cs = some x) :
    ∃ (A : Option Addr) (xs : List Rng) (c : Nat), cs = [.slice A xs.length c] ∧ xs.length ≤ c ∧ c ≤ maxLen ∧ RdR w 0 w.heap.size A xs := by
  obtain ⟨A, len, cap, rfl, h1, h2, h3⟩ := open_fields Try.underlying25 Try.underlying52 (by kernel_rfl) (by kernel_rfl) (by decide) (by simp [Try.underlying3]) h
  rcases Nat.eq_zero_or_pos len with rfl | hp
  · exact ⟨A, [], cap, rfl, Nat.zero_le _, h2, Rd.nil⟩
  · obtain ⟨b, off, rfl, hb, hc⟩ := h3 hp
    refine ⟨_, (List.range len).map (fun i => ⟨decI w b (off + i * 2 + 0), decI w b (off + i * 2 + 1)⟩), cap, by simp, by simpa using h1, h2, fun _ => ⟨b, off, rfl, Nat.zero_le _, hb, fun i y hy j u hu => ?_⟩⟩
    rw [List.getElem?_map] at hy
    have hil : i < len := by
      rcases Nat.lt_or_ge i len with h | h
      · exact h
      · rw [List.getElem?_eq_none (by simpa using h)] at hy; cases hy
    rw [List.getElem?_range hil] at hy
    cases hy
    match j, hu with
    | 0, hu | 1, hu => simp [encR] at hu; subst hu; exact hc i _ hil (by decide)
theorem rd_bores {fuel : Nat} {cs : List Value} {x : DataW H × List MemPlace} (h : DataW.trod enc Try.prog w base spare held fuel 26 cs = some x) :
    ∃ (A : Option Addr) (xs : List Bor) (c : Nat), cs = [.slice A xs.length c] ∧ xs.length ≤ c ∧ c ≤ maxLen ∧ RdO w 0 w.heap.size A xs := by
  obtain ⟨A, len, cap, rfl, h1, h2, h3⟩ := open_fields Try.underlying26 Try.underlying38 (by kernel_rfl) (by kernel_rfl) (by decide) (by simp [Try.underlying3]) h
  rcases Nat.eq_zero_or_pos len with rfl | hp
  · exact ⟨A, [], cap, rfl, Nat.zero_le _, h2, Rd.nil⟩
  · obtain ⟨b, off, rfl, hb, hc⟩ := h3 hp
    refine ⟨_, (List.range len).map (fun i => ⟨decI w b (off + i * 2 + 0), decI w b (off + i * 2 + 1)⟩), cap, by simp, by simpa using h1, h2, fun _ => ⟨b, off, rfl, Nat.zero_le _, hb, fun i y hy j u hu => ?_⟩⟩
    rw [List.getElem?_map] at hy
    have hil : i < len := by
      rcases Nat.lt_or_ge i len with h | h
      · exact h
      · rw [List.getElem?_eq_none (by simpa using h)] at hy; cases hy
    rw [List.getElem?_range hil] at hy
    cases hy
    match j, hu with
    | 0, hu | 1, hu => simp [encO] at hu; subst hu; exact hc i _ hil (by decide)

set_option maxRecDepth 100000 in
theorem open_net {r : Reach} {b0 : Nat} {v : Value} {d : DataW H} {p : List MemPlace} (hv : Value.okWide Try.prog w r b0 24 v) (h : DataW.Trod enc Try.prog w base spare held 24 v d p) :
    ∃ (n : Net) (A : Option Addr) (c : Nat), v = .agg #[.int .i64 n.pump, .slice A n.pipes.length c] ∧ n.pipes.length ≤ c ∧ c ≤ maxLen ∧ RdP w 0 w.heap.size A n.pipes := by
  obtain ⟨c0, c1, y0, y1, m, rfl, _, _, hy0, hy1⟩ := open_agg2 Try.underlying24 (by kernel_rfl) (by kernel_rfl) hv h
  obtain ⟨a, e0, _⟩ := DataW.trod_int Try.underlying3 hy0
  obtain ⟨A, xs, c, e1, h1, h2, h3⟩ := rd_pipes hy1
  simp only [List.cons.injEq, and_true] at e0 e1
  subst e0 e1
  exact ⟨⟨a, xs⟩, A, c, rfl, h1, h2, h3⟩
end
end Go.Proofs.Ytepibjfmeibgcaa
/- Arguments opened: a list of ranges. -/
namespace Go.Proofs.Ytepibjfmeibgcaa
open Go.RowKit Go.ChangeShapes Go.WideShapes Go.ChangeAt Go.Deep Go.Joins
section
variable {H : Type} {enc : TypeId × Value → H} {w : World} {base : Nat} {spare : Nat → Bool} {held : Bool}
set_option maxRecDepth 100000 in
theorem open_rs {r : Reach} {b0 : Nat} {v : Value} {d : DataW H} {p : List MemPlace} (hv : Value.okWide Try.prog w r b0 25 v) (h : DataW.Trod enc Try.prog w base spare held 25 v d p) :
    ∃ (A : Option Addr) (xs : List Rng) (c : Nat), v = .slice A xs.length c ∧ xs.length ≤ c ∧ c ≤ maxLen ∧ RdR w 0 w.heap.size A xs := by
  obtain ⟨a, l, c0, rfl⟩ := okWide_slice Try.underlying25 hv
  obtain ⟨fuel, hf⟩ := h
  obtain ⟨A, xs, c, e, h1, h2, h3⟩ := rd_ranges hf
  have e' : Value.slice a l c0 = Value.slice A xs.length c := by simpa [Value.cells] using e
  exact ⟨A, xs, c, e', h1, h2, h3⟩
theorem wf_i64 {n : Int} (h : (Lit.int .i64 n).wf = true) : -9223372036854775808 ≤ n ∧ n < 9223372036854775808 := by
  simp [Lit.wf, IntKind.min, IntKind.max, IntKind.signed, IntKind.bits] at h
  omega
theorem wf_8 {n : Int} (h : (Lit.int .u8 n).wf = true) : 0 ≤ n ∧ n ≤ 255 := by
  simp [Lit.wf, IntKind.min, IntKind.max, IntKind.signed, IntKind.bits] at h
  omega
theorem array3b {cs : Array Value} (h : cs.size = 3) : ∃ c0 c1 c2, cs = #[c0, c1, c2] := by
  obtain ⟨l⟩ := cs
  match l, h with
  | [c0, c1, c2], _ => exact ⟨c0, c1, c2, rfl⟩
set_option maxRecDepth 100000 in
theorem open_bytes {r : Reach} {b0 : Nat} {v : Value} {d : DataW H} {p : List MemPlace} (hv : Value.okWide Try.prog w r b0 83 v) (h : DataW.Trod enc Try.prog w base spare held 83 v d p) :
    ∃ a0 a1 a2 : Int, v = .agg #[.int .u8 a0, .int .u8 a1, .int .u8 a2] ∧ (0 ≤ a0 ∧ a0 ≤ 255) ∧ (0 ≤ a1 ∧ a1 ≤ 255) ∧ (0 ≤ a2 ∧ a2 ≤ 255) := by
  simp only [Value.okWide, Try.underlying83] at hv
  obtain ⟨cs, rfl, hsz, _⟩ := hv
  rw [show Try.prog.cellsOf 83 = 3 by kernel_rfl] at hsz
  obtain ⟨c0, c1, c2, rfl⟩ := array3b hsz
  obtain ⟨fuel, hf⟩ := h
  obtain ⟨xs, n, _, hx, _, hl, hff⟩ := DataW.trod_array Try.underlying83 hf
  have f0 := hff 0 (by omega)
  have f1 := hff 1 (by omega)
  have f2 := hff 2 (by omega)
  rw [show Try.prog.cellsOf 5 = 1 by kernel_rfl] at f0 f1 f2
  simp only [Value.cells, List.drop_succ_cons, List.drop_zero, List.take_succ_cons, List.take_zero, Nat.mul_one] at f0 f1 f2
  have g : ∀ i, i < 3 → ∃ y, xs[i]? = some y := fun i hi => ⟨xs[i]'(by rw [hl]; exact hi), List.getElem?_eq_getElem _⟩
  obtain ⟨y0, g0⟩ := g 0 (by omega)
  obtain ⟨y1, g1⟩ := g 1 (by omega)
  obtain ⟨y2, g2⟩ := g 2 (by omega)
  rw [g0] at f0
  rw [g1] at f1
  rw [g2] at f2
  obtain ⟨a0, e0, _, w0⟩ := DataW.trod_int Try.underlying5 f0
  obtain ⟨a1, e1, _, w1⟩ := DataW.trod_int Try.underlying5 f1
  obtain ⟨a2, e2, _, w2⟩ := DataW.trod_int Try.underlying5 f2
  simp only [List.cons.injEq, and_true] at e0 e1 e2
  subst e0 e1 e2
  exact ⟨a0, a1, a2, rfl, wf_8 w0, wf_8 w1, wf_8 w2⟩
end
end Go.Proofs.Ytepibjfmeibgcaa
