/- The reference of chapter 2, what forbids, what keeps: plain laws. -/
import Derived.Test.YtbpblhmigijkaaaTq
namespace Go.Proofs.Ytbpblhmigijkaaa
open Go.RowKit
set_option linter.unusedVariables false
theorem forb_t {y g sd up hl : Int} {h : Hol} {s : Spt} (h1 : y - h.year < hl) (h2 : max (h.height - s.height) (s.height - h.height) < up) : forbidsV y h s ⟨g, sd, up, hl⟩ = decide (turnV h.angle s.angle * g < 3600 * sd) := by
  have e1 : countsV y h ⟨g, sd, up, hl⟩ = true := decide_eq_true h1
  have e2 : levelV ⟨g, sd, up, hl⟩ h s.height = true := decide_eq_true h2
  unfold forbidsV
  rw [e1, e2, Bool.true_and, Bool.true_and]
theorem forb_f1 {y g sd up hl : Int} {h : Hol} {s : Spt} (h1 : hl ≤ y - h.year) : forbidsV y h s ⟨g, sd, up, hl⟩ = false := by
  have e1 : countsV y h ⟨g, sd, up, hl⟩ = false := decide_eq_false (by show ¬ y - h.year < hl; omega)
  unfold forbidsV
  rw [e1, Bool.false_and]
theorem forb_f2 {y g sd up hl : Int} {h : Hol} {s : Spt} (h1 : up ≤ max (h.height - s.height) (s.height - h.height)) : forbidsV y h s ⟨g, sd, up, hl⟩ = false := by
  have e1 : levelV ⟨g, sd, up, hl⟩ h s.height = false := decide_eq_false (by show ¬ max (h.height - s.height) (s.height - h.height) < up; omega)
  unfold forbidsV
  rw [e1, Bool.false_and, Bool.and_false]
theorem near_iff {x : TrkV} (hx : TrkOk x) {s o : Spt} : nearB s (gapV x) o = decide (turnV o.angle s.angle * x.worst.girth < 3600 * x.r.apart) := by
  have hg := hx.worst.girth
  unfold nearB gapV
  rw [decide_eq_decide]
  generalize turnV o.angle s.angle = t
  generalize x.worst.girth = g at hg ⊢
  generalize 3600 * x.r.apart = n
  have h := Int.le_ediv_iff_mul_le (a := t + 1) (b := n + g - 1) (c := g) (by omega)
  rw [Int.add_mul, Int.one_mul] at h
  omega
theorem spotsB_at {l : List Spt} (h : spotsB l = true) {i : Nat} (hi : i < l.length) : (0 ≤ (ix l i).angle ∧ (ix l i).angle ≤ 3599) ∧ (0 ≤ (ix l i).height ∧ (ix l i).height ≤ 5000) := spotsB_iff.1 h _ (ix_mem hi)
theorem drill_ok {t : TreeV} {y : Int} {l : List Spt} (ht : TreeOk t) (hy : t.year ≤ y ∧ y ≤ 9999) (hl : spotsB l = true) (hd : drillB t y l = true) : TreeOk (drillV t y l) := by
  have h0 := ht.year
  refine ⟨ht.year, ht.girth, ht.grow, ht.health, ?_, ?_⟩
  · have := of_decide_eq_true hd
    omega
  · intro h hh
    rcases List.mem_append.1 hh with hh | hh
    · exact ht.hole h hh
    · obtain ⟨s, hs, rfl⟩ := List.mem_map.1 hh
      exact ⟨by simp only; omega, spotsB_iff.1 hl s hs⟩
/-- Year by year: the first fault of a plan. -/
def verL (r : RuleV) (y : Int) : TreeV → Nat → List (List Spt) → Int × Int × Int × Int
  | _, _, [] => (-1, 0, 0, 0)
  | t, i, l :: p => if 0 ≤ (keepsV (openV t r (y + i)) l).at_ then (i, (keepsV (openV t r (y + i)) l).at_, (keepsV (openV t r (y + i)) l).rule, 0) else if drillB t (y + i) l = true then verL r y (drillV t (y + i) l) (i + 1) p else (0, 0, 0, 8)
theorem keepL_cases {x : TrkV} {may g : Int} {l : List Spt} : ∀ {r : List Spt} {i : Nat}, (keepL x may g l i r = ⟨-1, 0⟩) ∨ (0 ≤ (keepL x may g l i r).at_ ∧ 1 ≤ (keepL x may g l i r).rule) := by
  intro r
  induction r with
  | nil => intro i; exact .inl rfl
  | cons s r ih =>
    intro i
    unfold keepL
    split
    · exact .inr ⟨by simp only; omega, by simp only; omega⟩
    · split
      · exact .inr ⟨by simp only; omega, by simp only; omega⟩
      · split
        · exact .inr ⟨by simp only; omega, by simp only; omega⟩
        · split
          · exact .inr ⟨by simp only; omega, by simp only; omega⟩
          · exact ih
theorem keepsV_cases {x : TrkV} {l : List Spt} : (keepsV x l = ⟨-1, 0⟩) ∨ (0 ≤ (keepsV x l).at_ ∧ 1 ≤ (keepsV x l).rule) := keepL_cases
theorem blocksE_0 {t : TreeV} {r : RuleV} {y : Int} {s : Spt} : blocksE t r y s = 0 ↔ startE t r y = 0 ∧ spotsB [s] = true := by
  unfold blocksE
  by_cases h : startE t r y = 0
  · rw [if_neg (by omega)]
    cases spotsB [s] <;> simp [h]
  · rw [if_pos h]
    simp [h]
theorem blocksL_len {t : TreeV} {r : RuleV} {y : Int} {s : Spt} {q : Bool} (h : blocksE t r y s ≠ 0) : (blocksL t r y s q).length = 0 := by
  unfold blocksL
  rw [if_neg h]
  rfl
theorem byL_len {y : Int} {s : Spt} {u : Tru} : ∀ {l : List Hol} {i : Nat}, (byL y s u i l).length ≤ l.length := by
  intro l
  induction l with
  | nil => intro i; simp [byL]
  | cons h l ih =>
    intro i
    unfold byL
    have := ih (i := i + 1)
    split
    · simp only [List.length_cons]; omega
    · simp only [List.length_cons]; omega
theorem blocksL_bd {t : TreeV} {r : RuleV} {y : Int} {s : Spt} {q : Bool} : (blocksL t r y s q).length ≤ 60 := by
  unfold blocksL
  split
  · rename_i h
    have := (startE_0.1 (blocksE_0.1 h).1).1.len
    exact Nat.le_trans byL_len this
  · simp
end Go.Proofs.Ytbpblhmigijkaaa
