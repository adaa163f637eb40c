/- TrunkLess: plain laws; rows of flags. -/
import Derived.Test.YtbpblhmigijkaaaTfh
namespace Go.Proofs.Ytbpblhmigijkaaa
open Go.RowKit
set_option linter.unusedVariables false
def cellsB (f : Nat → Bool) : Nat → Nat → List LV
 | 0, _ => []
 | k + 1, i => LV.v (.bool (f i)) :: cellsB f k (i + 1)
theorem cellsB_at {f : Nat → Bool} : ∀ {k i j : Nat}, j < k → (cellsB f k i)[j]? = some (.v (.bool (f (i + j)))) := by
 intro k
 induction k with
 | zero => intro i j h; omega
 | succ k ih =>
  intro i j h
  cases j with
  | zero => simp [cellsB]
  | succ j =>
   simp only [cellsB, List.getElem?_cons_succ]
   rw [ih (by omega)]
   congr 4
   omega
theorem cellsB_len {f : Nat → Bool} : ∀ {k i : Nat}, (cellsB f k i).length = k := by
 intro k
 induction k with
 | zero => intro i; rfl
 | succ k ih => intro i; simp only [cellsB, List.length_cons, ih]
theorem cellsB_ren {f : Nat → Bool} {ρ : List (Nat × Nat)} : ∀ {k i : Nat}, (cellsB f k i).map (LV.ren ρ) = cellsB f k i := by
 intro k
 induction k with
 | zero => intro i; rfl
 | succ k ih => intro i; simp only [cellsB, List.map_cons, ih]; rfl
def setB (f : Nat → Bool) (k : Nat) (v : Bool) : Nat → Bool := fun i => if i = k then v else f i
theorem cellsB_set {f : Nat → Bool} {v : Bool} : ∀ {k i j : Nat}, j < k → (cellsB f k i).set j (.v (.bool v)) = cellsB (setB f (i + j) v) k i := by
 intro k
 induction k with
 | zero => intro i j h; omega
 | succ k ih =>
  intro i j h
  have hs : ∀ {m p : Nat}, i < p → cellsB (setB f i v) m p = cellsB f m p := by
   intro m
   induction m with
   | zero => intro p _; rfl
   | succ m ihm =>
    intro p hp
    simp only [cellsB]
    rw [ihm (by omega)]
    simp only [setB, if_neg (show p ≠ i by omega)]
  cases j with
  | zero =>
   simp only [cellsB, List.set_cons_zero, Nat.add_zero]
   rw [hs (by omega)]
   simp [setB]
  | succ j =>
   simp only [cellsB, List.set_cons_succ]
   rw [ih (by omega), show i + 1 + j = i + (j + 1) by omega]
   simp only [setB, if_neg (show i ≠ i + (j + 1) by omega)]
def flagsC (f : Nat → Bool) : List LV := cellsB f 3600 0
theorem flags_at {f : Nat → Bool} {k : Nat} (h : k < 3600) : (flagsC f)[k]? = some (.v (.bool (f k))) := by
 have := cellsB_at (f := f) (i := 0) h
 rw [Nat.zero_add] at this
 exact this
theorem flags_len {f : Nat → Bool} {k : Nat} (h : k < 3600) : k < (flagsC f).length := by
 unfold flagsC
 rw [cellsB_len]
 exact h
theorem flags_set {f : Nat → Bool} {v : Bool} {k : Nat} (h : k < 3600) : flagsC (setB f k v) = (flagsC f).set k (.v (.bool v)) := by
 have := cellsB_set (f := f) (v := v) (i := 0) h
 rw [Nat.zero_add] at this
 exact this.symm
theorem flagsC_le {f g : Nat → Bool} {ρ : List (Nat × Nat)} (h : f = g) : flagsC f = (flagsC g).map (LV.ren ρ) := by
 subst h
 exact (cellsB_ren (f := f) (k := 3600) (i := 0) (ρ := ρ)).symm
end Go.Proofs.Ytbpblhmigijkaaa
