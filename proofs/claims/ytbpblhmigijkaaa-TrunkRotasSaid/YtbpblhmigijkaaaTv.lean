/- The reference of chapter 2, what forbids, what keeps: plain laws. -/
import Derived.Test.YtbpblhmigijkaaaTq
namespace Go.Proofs.Ytbpblhmigijkaaa
open Go.RowKit
set_option linter.unusedVariables false
theorem forb_t {y g sd up hl : Int} {h : Hol} {s : Spt} (h1 : y - h.year < hl) (h2 : max (h.height - s.height) (s.height - h.height) < up) : forbidsV y h s ⟨g, sd, up, hl⟩ = decide (turnV h.angle s.angle * g < 3600 * sd) := by
 have e1 : countsV y h ⟨g, sd, up, hl⟩ = true := decide_eq_true h1
 have e2 : levelV ⟨g, sd, up, hl⟩ h s.height = true := decide_eq_true h2
 unfold forbidsV
 rw [e1, e2, Bool.true_and, Bool.true_and]
theorem forb_f1 {y g sd up hl : Int} {h : Hol} {s : Spt} (h1 : hl ≤ y - h.year) : forbidsV y h s ⟨g, sd, up, hl⟩ = false := by
 have e1 : countsV y h ⟨g, sd, up, hl⟩ = false := decide_eq_false (by show ¬ y - h.year < hl; omega)
 unfold forbidsV
 rw [e1, Bool.false_and]
theorem forb_f2 {y g sd up hl : Int} {h : Hol} {s : Spt} (h1 : up ≤ max (h.height - s.height) (s.height - h.height)) : forbidsV y h s ⟨g, sd, up, hl⟩ = false := by
 have e1 : levelV ⟨g, sd, up, hl⟩ h s.height = false := decide_eq_false (by show ¬ max (h.height - s.height) (s.height - h.height) < up; omega)
 unfold forbidsV
 rw [e1, Bool.false_and, Bool.and_false]
theorem near_iff {x : TrkV} (hx : TrkOk x) {s o : Spt} : nearB s (gapV x) o = decide (turnV o.angle s.angle * x.worst.girth < 3600 * x.r.apart) := by
 have hg := hx.worst.girth
 unfold nearB gapV
 rw [decide_eq_decide]
 generalize turnV o.angle s.angle = t
 generalize x.worst.girth = g at hg ⊢
 generalize 3600 * x.r.apart = n
 have h := Int.le_ediv_iff_mul_le (a := t + 1) (b := n + g - 1) (c := g) (by omega)
 rw [Int.add_mul, Int.one_mul] at h
 omega
theorem spotsB_at {l : List Spt} (h : spotsB l = true) {i : Nat} (hi : i < l.length) : (0 ≤ (ix l i).angle ∧ (ix l i).angle ≤ 3599) ∧ (0 ≤ (ix l i).height ∧ (ix l i).height ≤ 5000) := spotsB_iff.1 h _ (ix_mem hi)
theorem drill_ok {t : TreeV} {y : Int} {l : List Spt} (ht : TreeOk t) (hy : t.year ≤ y ∧ y ≤ 9999) (hl : spotsB l = true) (hd : drillB t y l = true) : TreeOk (drillV t y l) := by
 have h0 := ht.year
 refine ⟨ht.year, ht.girth, ht.grow, ht.health, ?_, ?_⟩
 ·have := of_decide_eq_true hd
  omega
 ·intro h hh
  rcases List.mem_append.1 hh with hh | hh
  ·exact ht.hole h hh
  ·obtain ⟨s, hs, rfl⟩ := List.mem_map.1 hh
   exact ⟨by simp only; omega, spotsB_iff.1 hl s hs⟩
theorem keepL_cases {x : TrkV} {may g : Int} {l : List Spt} : ∀ {r : List Spt} {i : Nat}, (keepL x may g l i r = ⟨-1, 0⟩) ∨ (0 ≤ (keepL x may g l i r).at_ ∧ 1 ≤ (keepL x may g l i r).rule) := by
 intro r
 induction r with
 | nil => intro i; exact .inl rfl
 | cons s r ih =>
  intro i
  unfold keepL
  split
  ·exact .inr ⟨by simp only; omega, by simp only; omega⟩
  ·split
   ·exact .inr ⟨by simp only; omega, by simp only; omega⟩
   ·split
    ·exact .inr ⟨by simp only; omega, by simp only; omega⟩
    ·split
     ·exact .inr ⟨by simp only; omega, by simp only; omega⟩
     ·exact ih
theorem keepsV_cases {x : TrkV} {l : List Spt} : (keepsV x l = ⟨-1, 0⟩) ∨ (0 ≤ (keepsV x l).at_ ∧ 1 ≤ (keepsV x l).rule) := keepL_cases
theorem blocksE_0 {t : TreeV} {r : RuleV} {y : Int} {s : Spt} : blocksE t r y s = 0 ↔ startE t r y = 0 ∧ spotsB [s] = true := by
 unfold blocksE
 by_cases h : startE t r y = 0
 ·rw [if_neg (by omega)]
  cases spotsB [s] <;> simp [h]
 ·rw [if_pos h]
  simp [h]
theorem ix_takeT {α : Type} [Inhabited α] {l : List α} {i j : Nat} (h : j < i) : ix (l.take i) j = ix l j := by
 unfold ix
 rw [List.getD_eq_getElem?_getD, List.getD_eq_getElem?_getD, List.getElem?_take, if_pos h]
theorem any_take_no {α : Type} [Inhabited α] {p : α → Bool} {l : List α} {i : Nat} (h : ∀ j, j < i → p (ix l j) = false) : (l.take i).any p = false :=
 any_no (i := i) (fun j hj => by rw [ix_takeT hj]; exact h j hj) (by rw [List.length_take]; omega)
theorem any_take_at {α : Type} [Inhabited α] {p : α → Bool} {l : List α} {i j : Nat} (hj : j < i) (hi : i ≤ l.length) (h : p (ix l j) = true) : (l.take i).any p = true :=
 any_at (i := j) (by rw [List.length_take]; omega) (by rw [ix_takeT hj]; exact h)
theorem blocksL_by {t : TreeV} {r : RuleV} {y : Int} {s : Spt} (h0 : startE t r y = 0) (hs : (0 ≤ s.angle ∧ s.angle ≤ 3599) ∧ (0 ≤ s.height ∧ s.height ≤ 5000)) : blocksE t r y s = 0 ∧ blocksL t r y s false = byV (openV t r y) s (openV t r y).worst := by
 have h : blocksE t r y s = 0 := blocksE_0.2 ⟨h0, spotsB_iff.2 fun q hq => by rw [List.mem_singleton.1 hq]; exact hs⟩
 refine ⟨h, ?_⟩
 unfold blocksL
 rw [if_pos h]
 rfl
theorem keepL_f1 {x : TrkV} {may g : Int} {l r : List Spt} {i : Nat} {s : Spt}  (h1 : (!(within x.r.blo x.r.bhi [s.height])) = true) : keepL x may g l i (s :: r) = ⟨i, 1⟩ := by
 unfold keepL
 rw [if_pos h1]
theorem keepL_f2 {x : TrkV} {may g : Int} {l r : List Spt} {i : Nat} {s : Spt} (h1 : (!(within x.r.blo x.r.bhi [s.height])) = false) (h2 : decide (0 < (((byV x s x.worst).length : Nat) : Int)) = true) : keepL x may g l i (s :: r) = ⟨i, 2⟩ := by
 unfold keepL
 rw [if_neg (by rw [h1]; exact Bool.false_ne_true), if_pos h2]
theorem keepL_f3 {x : TrkV} {may g : Int} {l r : List Spt} {i : Nat} {s : Spt} (h1 : (!(within x.r.blo x.r.bhi [s.height])) = false) (h2 : decide (0 < (((byV x s x.worst).length : Nat) : Int)) = false) (h3 : (l.take i).any (nearB s g) = true) : keepL x may g l i (s :: r) = ⟨i, 3⟩ := by
 unfold keepL
 rw [if_neg (by rw [h1]; exact Bool.false_ne_true), if_neg (by rw [h2]; exact Bool.false_ne_true), if_pos h3]
theorem keepL_f4 {x : TrkV} {may g : Int} {l r : List Spt} {i : Nat} {s : Spt} (h1 : (!(within x.r.blo x.r.bhi [s.height])) = false) (h2 : decide (0 < (((byV x s x.worst).length : Nat) : Int)) = false) (h3 : (l.take i).any (nearB s g) = false) (h4 : decide (may ≤ (i : Int)) = true) : keepL x may g l i (s :: r) = ⟨i, 4⟩ := by
 unfold keepL
 rw [if_neg (by rw [h1]; exact Bool.false_ne_true), if_neg (by rw [h2]; exact Bool.false_ne_true), if_neg (by rw [h3]; exact Bool.false_ne_true), if_pos h4]
theorem keepL_f5 {x : TrkV} {may g : Int} {l r : List Spt} {i : Nat} {s : Spt} (h1 : (!(within x.r.blo x.r.bhi [s.height])) = false) (h2 : decide (0 < (((byV x s x.worst).length : Nat) : Int)) = false) (h3 : (l.take i).any (nearB s g) = false) (h4 : decide (may ≤ (i : Int)) = false) : keepL x may g l i (s :: r) = keepL x may g l (i + 1) r := by
 conv => lhs; unfold keepL
 rw [if_neg (by rw [h1]; exact Bool.false_ne_true), if_neg (by rw [h2]; exact Bool.false_ne_true), if_neg (by rw [h3]; exact Bool.false_ne_true), if_neg (by rw [h4]; exact Bool.false_ne_true)]
end Go.Proofs.Ytbpblhmigijkaaa
