/- The reference: angles one by one; rows of numbers. Plain laws. -/
import Derived.Test.YtbpblhmigijkaaaTfl
import Derived.Test.YtbpblhmigijkaaaTrm
namespace Go.Proofs.Ytbpblhmigijkaaa
open Go.RowKit
set_option linter.unusedVariables false
def nextsC (n : Nat → Int) : List LV := cellsI n 3601 0 []
theorem nexts_at {n : Nat → Int} {k : Nat} (h : k < 3601) : (nextsC n)[k]? = some (.i (n k)) := by
 have := cellsI_at (n := n) (tl := []) (i := 0) h
 rw [Nat.zero_add] at this
 exact this
theorem nexts_len {n : Nat → Int} {k : Nat} (h : k < 3601) : k < (nextsC n).length := by
 unfold nextsC
 rw [cellsI_len]
 simpa using h
theorem nexts_set {n : Nat → Int} {v : Int} {k : Nat} (h : k < 3601) : nextsC (setF n k v) = (nextsC n).set k (.i v) := by
 have := cellsI_set (n := n) (tl := []) (v := v) (i := 0) h
 rw [Nat.zero_add] at this
 exact this.symm
theorem nextsC_le {n n2 : Nat → Int} {ρ : List (Nat × Nat)} (h : n = n2) : nextsC n = (nextsC n2).map (LV.ren ρ) := by
 subst h
 exact (cellsI_ren (n := n) (tl := []) (k := 3601) (i := 0) (ρ := ρ)).symm
def angV (x : TrkV) (e : Int) (a : Nat) : Bool := inS (freeV x e) (a : Int)
def okH (x : TrkV) (e : Int) (a : Nat) (h : Hol) : Bool := !(forbidsV x.year h ⟨(a : Int), e⟩ x.worst)
theorem ang_all {x : TrkV} (hx : TrkOk x) {e : Int} {a : Nat} (ha : a < 3600) : angV x e a = x.t.holes.all (okH x e a) := by
 unfold angV
 rw [Bool.eq_iff_iff, free_iff hx (show 0 ≤ (a : Int) ∧ (a : Int) ≤ 3599 by omega), List.all_eq_true]
 constructor
 ·intro h q hq
  unfold okH
  rw [h q hq]
  rfl
 ·intro h q hq
  have := h q hq
  unfold okH at this
  simpa using this
theorem all_take {α : Type} [Inhabited α] {p : α → Bool} {l : List α} {i : Nat} (h : i < l.length) : (l.take (i + 1)).all p = ((l.take i).all p && p (ix l i)) := by
 rw [take_ix h, List.all_append]
 simp
theorem all_stop {α : Type} {p : α → Bool} {l : List α} {i : Nat} (h : (l.take i).all p = false) : l.all p = false := by
 rw [List.all_eq_false] at h ⊢
 obtain ⟨x, hx, h⟩ := h
 exact ⟨x, List.mem_of_mem_take hx, h⟩
theorem ang_end {x : TrkV} (hx : TrkOk x) {e : Int} {a i : Nat} {b : Bool} (ha : a < 3600) (hi : i ≤ x.t.holes.length) (hb : b = (x.t.holes.take i).all (okH x e a)) (h : x.t.holes.length ≤ i ∨ b = false) : b = angV x e a := by
 rw [ang_all hx ha]
 rcases h with h | h
 ·rw [hb, List.take_of_length_le h]
 ·rw [h] at hb ⊢
  exact (all_stop hb.symm).symm
theorem setB_at {f : Nat → Bool} {k : Nat} {v : Bool} : setB f k v k = v := if_pos rfl
theorem setB_ne {f : Nat → Bool} {k j : Nat} {v : Bool} (h : j ≠ k) : setB f k v j = f j := if_neg h
theorem flags_all {f g : Nat → Bool} {ρ : List (Nat × Nat)} (h : ∀ k, k < 3600 → f k = g k) : flagsC f = (flagsC g).map (LV.ren ρ) := by
 rw [← flagsC_le (ρ := ρ) (f := g) rfl]
 unfold flagsC
 have key : ∀ (k i : Nat), i + k ≤ 3600 → cellsB f k i = cellsB g k i := by
  intro k
  induction k with
  | zero => intro i _; rfl
  | succ k ih => intro i hi; simp only [cellsB, ih (i + 1) (by omega), h i (by omega)]
 exact key 3600 0 (by omega)
def gap2V (x : TrkV) : Int := min (gapV x) 3600
theorem gap_lt {x : TrkV} (hx : TrkOk x) {n : Int} : n * x.worst.girth < 3600 * x.r.apart ↔ n < gapV x := by
 have hg := hx.worst.girth
 unfold gapV
 generalize x.worst.girth = g at hg ⊢
 generalize 3600 * x.r.apart = z
 have h := Int.le_ediv_iff_mul_le (a := n + 1) (b := z + g - 1) (c := g) (by omega)
 rw [Int.add_mul, Int.one_mul] at h
 omega
end Go.Proofs.Ytbpblhmigijkaaa
