/- The reference of chapter 2: plain laws. -/
import Derived.Test.YtbpblhmigijkaaaTr
namespace Go.Proofs.Ytbpblhmigijkaaa
open Go.RowKit
set_option linter.unusedVariables false
theorem within1b {lo hi x : Int} : within lo hi [x] = (decide (lo ≤ x) && decide (x ≤ hi)) := by
 rw [Bool.eq_iff_iff, within1, Bool.and_eq_true, decide_eq_true_eq, decide_eq_true_eq]
theorem rangeB_eq {a b lo hi : Int} : rangeB a b lo hi = (within lo hi [a] && within a hi [b]) := by
 rw [Bool.eq_iff_iff, rangeB_iff, Bool.and_eq_true, within1, within1]
 omega
theorem any_at {α : Type} [Inhabited α] {p : α → Bool} {l : List α} {i : Nat} (hi : i < l.length) (h : p (ix l i) = true) : l.any p = true := List.any_eq_true.2 ⟨_, ix_mem hi, h⟩
theorem any_no {α : Type} [Inhabited α] {p : α → Bool} {l : List α} {i : Nat} (h : ∀ j, j < i → p (ix l j) = false) (hi : l.length ≤ i) : l.any p = false := by
 rw [List.any_eq_false]
 intro x hx
 obtain ⟨k, hk, rfl⟩ := List.getElem_of_mem hx
 have := h k (by omega)
 have e : ix l k = l[k] := by
  unfold ix
  rw [List.getD_eq_getElem?_getD, List.getElem?_eq_getElem hk]
  rfl
 rw [e] at this
 simp [this]
def largeB (t : TreeV) (r : RuleV) : Bool := decide ((70 : Int) < (t.holes.length : Int)) || decide ((15 : Int) < (r.sizes.length : Int))
theorem large_no {t : TreeV} {r : RuleV} (h : largeB t r = false) : t.holes.length ≤ 70 ∧ r.sizes.length ≤ 15 := by
 unfold largeB at h
 rw [Bool.or_eq_false_iff, decide_eq_false_iff_not, decide_eq_false_iff_not] at h
 omega
def exTree : TreeV := ⟨20, 1200, 1260, 5, 10, 3, [⟨20, 0, 1000⟩]⟩
def exRule : RuleV := ⟨30, 60, 200, 300, 3, 8, 400, 600, 1600, [⟨800, 1⟩, ⟨1500, 2⟩], 2, 2, 2, 2, 2, 5⟩
theorem heal_snoc {r : RuleV} {i : Nat} (h : ∀ j : Nat, j < i → within 0 20 [healV r (j : Int)] = true) (h1 : within 0 20 [healV r (i : Int)] = true) : ∀ j : Nat, j < i + 1 → within 0 20 [healV r (j : Int)] = true := fun j hj => by
 by_cases e : j = i
 ·rw [e]; exact h1
 ·exact h j (by omega)
theorem heal_all {r : RuleV} (h : ∀ j : Nat, j < 5 → within 0 20 [healV r (j : Int)] = true) : within 0 20 [r.n0, r.n1, r.n2, r.n3, r.n4] = true := by
 have q := fun j hj => within1.1 (h j hj)
 have q0 : 0 ≤ r.n0 ∧ r.n0 ≤ 20 := q 0 (by omega)
 have q1 : 0 ≤ r.n1 ∧ r.n1 ≤ 20 := q 1 (by omega)
 have q2 : 0 ≤ r.n2 ∧ r.n2 ≤ 20 := q 2 (by omega)
 have q3 : 0 ≤ r.n3 ∧ r.n3 ≤ 20 := q 3 (by omega)
 have q4 : 0 ≤ r.n4 ∧ r.n4 ≤ 20 := q 4 (by omega)
 rw [within_iff]
 intro x hx
 simp only [List.mem_cons, List.not_mem_nil, or_false] at hx
 rcases hx with rfl | rfl | rfl | rfl | rfl <;> assumption
theorem heal_not {r : RuleV} {i : Nat} (hi : i < 5) (h : within 0 20 [healV r (i : Int)] = false) : within 0 20 [r.n0, r.n1, r.n2, r.n3, r.n4] = false := by
 cases hc : within 0 20 [r.n0, r.n1, r.n2, r.n3, r.n4] with
 | false => rfl
 | true =>
  rw [within_iff] at hc
  have : within 0 20 [healV r (i : Int)] = true := by
   rw [within1]
   match i, hi with
   | 0, _ => exact hc r.n0 (by simp)
   | 1, _ => exact hc r.n1 (by simp)
   | 2, _ => exact hc r.n2 (by simp)
   | 3, _ => exact hc r.n3 (by simp)
   | 4, _ => exact hc r.n4 (by simp)
  rw [this] at h
  cases h
def preG (l : List Siz) (k : Nat) : Int := if k = 0 then 0 else (ix l (k - 1)).girth
def preT (l : List Siz) (k : Nat) : Int := if k = 0 then 0 else (ix l (k - 1)).taps
theorem pre_succ {l : List Siz} {k : Nat} : preG l (k + 1) = (ix l k).girth ∧ preT l (k + 1) = (ix l k).taps := by simp [preG, preT]
theorem sz_good {l : List Siz} {k : Nat} (hk : k < l.length) (hb : 0 ≤ preG l k ∧ 0 ≤ preT l k ∧ preG l k ≤ 10000) (h1 : (!(within 1 10000 [(ix l k).girth])) = false) (h2 : (!(within 0 20 [(ix l k).taps])) = false) (h3 : 0 < k → preG l k < (ix l k).girth ∧ preT l k ≤ (ix l k).taps) :
  sizesB (preG l k) (preT l k) (l.drop k) = sizesB (preG l (k + 1)) (preT l (k + 1)) (l.drop (k + 1)) ∧ (0 ≤ preG l (k + 1) ∧ 0 ≤ preT l (k + 1) ∧ preG l (k + 1) ≤ 10000) := by
 have q1 := within1.1 (by simpa using h1 : within 1 10000 [(ix l k).girth] = true)
 have q2 := within1.1 (by simpa using h2 : within 0 20 [(ix l k).taps] = true)
 rw [pre_succ.1, pre_succ.2]
 refine ⟨?_, by omega⟩
 rw [drop_ix hk]
 simp only [sizesB]
 have q3 : preG l k < (ix l k).girth ∧ preT l k ≤ (ix l k).taps := by
  by_cases e : k = 0
  ·subst e
   simp only [preG, preT, if_pos]
   omega
  ·exact h3 (by omega)
 rw [within1.2 (by omega), within1.2 (by omega), Bool.true_and, Bool.true_and]
theorem sz_bad1 {l : List Siz} {k : Nat} (hk : k < l.length) (hb : 0 ≤ preG l k ∧ 0 ≤ preT l k ∧ preG l k ≤ 10000) (h : within 1 10000 [(ix l k).girth] = false ∨ within 0 20 [(ix l k).taps] = false) : sizesB (preG l k) (preT l k) (l.drop k) = false := by
 rw [drop_ix hk]
 simp only [sizesB]
 cases hc : (within (preG l k + 1) 10000 [(ix l k).girth] && (within (preT l k) 20 [(ix l k).taps] && sizesB (ix l k).girth (ix l k).taps (l.drop (k + 1)))) with
 | false => rfl
 | true =>
  simp only [Bool.and_eq_true, within1] at hc
  rcases h with h | h
  ·rw [within1.2 (by omega)] at h; cases h
  ·rw [within1.2 (by omega)] at h; cases h
theorem sz_bad2 {l : List Siz} {k : Nat} (hk : k < l.length) (h0 : 0 < k) (h : (ix l k).girth ≤ (ix l (k - 1)).girth ∨ (ix l k).taps < (ix l (k - 1)).taps) : sizesB (preG l k) (preT l k) (l.drop k) = false := by
 rw [drop_ix hk]
 simp only [sizesB, preG, preT, if_neg (show ¬ k = 0 by omega)]
 cases hc : (within ((ix l (k - 1)).girth + 1) 10000 [(ix l k).girth] && (within (ix l (k - 1)).taps 20 [(ix l k).taps] && sizesB (ix l k).girth (ix l k).taps (l.drop (k + 1)))) with
 | false => rfl
 | true =>
  simp only [Bool.and_eq_true, within1] at hc
  omega
theorem open_step {y a a' o : Int} {u : Tru} {l : List Hol} {j : Nat} (hj : j < l.length) (h : (decide (y - (ix l j).year < u.heal) = true ∧ a' = a + 1) ∨ (decide (y - (ix l j).year < u.heal) = false ∧ a' = a)) : openN y u (o - a') (l.drop (j + 1)) = openN y u (o - a) (l.drop j) := by
 rw [drop_ix hj]
 show _ = openN y u (if countsV y (ix l j) u = true then o - a - 1 else o - a) (l.drop (j + 1))
 rcases h with ⟨h, rfl⟩ | ⟨h, rfl⟩
 ·have hc : countsV y (ix l j) u = true := h
  rw [if_pos hc, show o - (a + 1) = o - a - 1 by omega]
 ·have hc : countsV y (ix l j) u = false := h
  rw [if_neg (by rw [hc]; exact Bool.false_ne_true)]
end Go.Proofs.Ytbpblhmigijkaaa
