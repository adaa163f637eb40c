/- Plans of years: plain laws. -/
import Derived.Test.YtbpblhmigijkaaaTv
import Derived.Test.YtbpblhmigijkaaaA31
namespace Go.Proofs.Ytbpblhmigijkaaa
open Go.RowKit
set_option linter.unusedVariables false
def longB (l : List Spt) : Bool := decide ((20 : Int) < ((l.length : Nat) : Int))
def shortP (k : Nat) (xss : List (List Spt)) : Prop := ∀ l, l ∈ xss → l.length ≤ k
theorem take_flat {xss : List (List Spt)} {i : Nat} (h : i < xss.length) : (xss.take (i + 1)).flatten = (xss.take i).flatten ++ ix xss i := by
  rw [take_ix h, List.flatten_append]
  simp
theorem flat_len {k : Nat} : ∀ {xss : List (List Spt)}, shortP k xss → xss.flatten.length ≤ k * xss.length := by
  intro xss
  induction xss with
  | nil => intro _; simp
  | cons l r ih =>
    intro h
    have h1 := ih fun q hq => h q (List.mem_cons_of_mem _ hq)
    have h2 := h l List.mem_cons_self
    rw [List.flatten_cons, List.length_append, List.length_cons, Nat.mul_succ]
    omega
theorem flat_take {k : Nat} {xss : List (List Spt)} (h : shortP k xss) (i : Nat) : (xss.take i).flatten.length ≤ k * xss.length := by
  have h1 := flat_len (k := k) (xss := xss.take i) fun q hq => h q (List.mem_of_mem_take hq)
  have h2 : k * (xss.take i).length ≤ k * xss.length := Nat.mul_le_mul_left _ (by rw [List.length_take]; omega)
  omega
theorem flat_all {xss : List (List Spt)} {i : Nat} (h : xss.length ≤ i) : (xss.take i).flatten = xss.flatten := by rw [List.take_of_length_le h]
theorem spots_flat {xss : List (List Spt)} : spotsB xss.flatten = true ↔ ∀ l, l ∈ xss → spotsB l = true := by
  rw [spotsB_iff]
  constructor
  · intro h l hl
    exact spotsB_iff.2 fun s hs => h s (List.mem_flatten.2 ⟨l, hl, hs⟩)
  · intro h s hs
    obtain ⟨l, hl, hs⟩ := List.mem_flatten.1 hs
    exact spotsB_iff.1 (h l hl) s hs
theorem fault_iff {x : TrkV} {l : List Spt} : (decide ((keepsV x l).at_ ≠ -1) || decide ((keepsV x l).rule ≠ 0)) = decide (0 ≤ (keepsV x l).at_) := by
  rcases keepsV_cases (x := x) (l := l) with h | ⟨h1, h2⟩
  · rw [h]; rfl
  · rw [decide_eq_true h1, decide_eq_true (show (keepsV x l).at_ ≠ -1 by omega), Bool.true_or]
theorem verL_f1 {r : RuleV} {y : Int} {t : TreeV} {i : Nat} {l : List Spt} {p : List (List Spt)} (h : 0 ≤ (keepsV (openV t r (y + i)) l).at_) : verL r y t i (l :: p) = (((i : Nat) : Int), (keepsV (openV t r (y + i)) l).at_, (keepsV (openV t r (y + i)) l).rule, 0) := by
  unfold verL
  rw [if_pos h]
theorem verL_f2 {r : RuleV} {y : Int} {t : TreeV} {i : Nat} {l : List Spt} {p : List (List Spt)} (h : ¬ 0 ≤ (keepsV (openV t r (y + i)) l).at_) (hd : drillB t (y + i) l = false) : verL r y t i (l :: p) = (0, 0, 0, 8) := by
  unfold verL
  rw [if_neg h, if_neg (by rw [hd]; exact Bool.false_ne_true)]
theorem verL_f3 {r : RuleV} {y : Int} {t : TreeV} {i : Nat} {l : List Spt} {p : List (List Spt)} (h : ¬ 0 ≤ (keepsV (openV t r (y + i)) l).at_) (hd : drillB t (y + i) l = true) : verL r y t i (l :: p) = verL r y (drillV t (y + i) l) (i + 1) p := by
  conv => lhs; unfold verL
  rw [if_neg h, if_pos hd]
theorem drill_start {t : TreeV} {r : RuleV} {y : Int} {l : List Spt} (h : startE t r y = 0) (hl : spotsB l = true) (hd : drillB t y l = true) (hy : y + 1 ≤ 9999) : startE (drillV t y l) r (y + 1) = 0 := by
  obtain ⟨k1, k2, k3⟩ := startE_0.1 h
  exact startE_0.2 ⟨drill_ok k1 k3 hl hd, k2, by show t.year ≤ y + 1 ∧ _; omega⟩
theorem drill_len {t : TreeV} {y : Int} {l : List Spt} (h : drillB t y l = true) : (drillV t y l).holes.length ≤ 60 := by
  have := of_decide_eq_true h
  omega
def anyLong (xss : List (List Spt)) : Bool := xss.any longB
def verE (t : TreeV) (r : RuleV) (y : Int) (p : List (List Spt)) : Int := if startE t r y ≠ 0 then startE t r y else if (decide ((40 : Int) < ((p.length : Nat) : Int)) || anyLong p) = true then 5 else if (decide (9999 < y + ((p.length : Nat) : Int) - 1) || !(spotsB p.flatten)) = true then 3 else 0
def verR (t : TreeV) (r : RuleV) (y : Int) (p : List (List Spt)) : Int × Int × Int × Int := if verE t r y p ≠ 0 then (0, 0, 0, verE t r y p) else verL r y t 0 p
theorem any_long {xss : List (List Spt)} (h : anyLong xss = false) : shortP 20 xss := fun l hl => by
  unfold anyLong at h
  rw [List.any_eq_false] at h
  have := h l hl
  unfold longB at this
  simp only [decide_eq_true_eq] at this
  omega
theorem verR_1 {t : TreeV} {r : RuleV} {y : Int} {p : List (List Spt)} (h : startE t r y ≠ 0) : verR t r y p = (0, 0, 0, startE t r y) := by
  have e : verE t r y p = startE t r y := by unfold verE; rw [if_pos h]
  unfold verR
  rw [e, if_pos h]
theorem verR_2 {t : TreeV} {r : RuleV} {y : Int} {p : List (List Spt)} (h : startE t r y = 0) (h2 : (decide ((40 : Int) < ((p.length : Nat) : Int)) || anyLong p) = true) : verR t r y p = (0, 0, 0, 5) := by
  have e : verE t r y p = 5 := by unfold verE; rw [if_neg (by omega), if_pos h2]
  unfold verR
  rw [e, if_pos (by decide)]
theorem verR_3 {t : TreeV} {r : RuleV} {y : Int} {p : List (List Spt)} (h : startE t r y = 0) (h2 : (decide ((40 : Int) < ((p.length : Nat) : Int)) || anyLong p) = false) (h3 : (decide (9999 < y + ((p.length : Nat) : Int) - 1) || !(spotsB p.flatten)) = true) : verR t r y p = (0, 0, 0, 3) := by
  have e : verE t r y p = 3 := by unfold verE; rw [if_neg (by omega), if_neg (by rw [h2]; exact Bool.false_ne_true), if_pos h3]
  unfold verR
  rw [e, if_pos (by decide)]
theorem verR_4 {t : TreeV} {r : RuleV} {y : Int} {p : List (List Spt)} (h : startE t r y = 0) (h2 : (decide ((40 : Int) < ((p.length : Nat) : Int)) || anyLong p) = false) (h3 : (decide (9999 < y + ((p.length : Nat) : Int) - 1) || !(spotsB p.flatten)) = false) : verE t r y p = 0 ∧ verR t r y p = verL r y t 0 p := by
  have e : verE t r y p = 0 := by unfold verE; rw [if_neg (by omega), if_neg (by rw [h2]; exact Bool.false_ne_true), if_neg (by rw [h3]; exact Bool.false_ne_true)]
  refine ⟨e, ?_⟩
  unfold verR
  rw [if_neg (by rw [e]; decide)]
theorem verE_0 {t : TreeV} {r : RuleV} {y : Int} {p : List (List Spt)} (h : verE t r y p = 0) : startE t r y = 0 ∧ p.length ≤ 40 ∧ shortP 20 p ∧ y + ((p.length : Nat) : Int) - 1 ≤ 9999 ∧ ∀ l, l ∈ p → spotsB l = true := by
  unfold verE at h
  split at h
  · rename_i h0; exact absurd h h0
  · rename_i h0
    split at h
    · cases h
    · rename_i h1
      split at h
      · cases h
      · rename_i h2
        rw [Bool.not_eq_true, Bool.or_eq_false_iff, decide_eq_false_iff_not] at h1 h2
        exact ⟨by omega, by omega, any_long h1.2, by omega, spots_flat.1 (by simpa using h2.2)⟩
theorem verR_0 {t : TreeV} {r : RuleV} {y : Int} {p : List (List Spt)} (h : verE t r y p = 0) : verR t r y p = verL r y t 0 p := by
  unfold verR
  rw [if_neg (by rw [h]; decide)]
theorem verR_bad {t : TreeV} {r : RuleV} {y : Int} {p : List (List Spt)} (h : verE t r y p ≠ 0) : verR t r y p = (0, 0, 0, verE t r y p) := by
  unfold verR
  rw [if_pos h]
-- the law's own count of errors
def w1V (t : TreeV) (r : RuleV) (y : Int) (p : List (List Spt)) (i : Nat) : Int := if startE t r y ≠ 0 then startE t r y else if ((decide (0 < i) && decide ((40 : Int) < ((p.length : Nat) : Int))) || anyLong (p.take i)) = true then 5 else 0
def w2V (t : TreeV) (r : RuleV) (y : Int) (p : List (List Spt)) : Int := if startE t r y ≠ 0 then startE t r y else if (decide ((40 : Int) < ((p.length : Nat) : Int)) || anyLong p) = true then 5 else 0
def anyBad (p : List (List Spt)) : Bool := p.any fun q => !(spotsB q)
def w3V (t : TreeV) (r : RuleV) (y : Int) (p : List (List Spt)) (k : Nat) : Int := if w2V t r y p ≠ 0 then w2V t r y p else if (decide (9999 < y + ((p.length : Nat) : Int) - 1) || anyBad (p.take k)) = true then 3 else 0
section
variable {t : TreeV} {r : RuleV} {y : Int} {p : List (List Spt)} {i k : Nat}
theorem long_take (h : i < p.length) : anyLong (p.take (i + 1)) = (anyLong (p.take i) || longB (ix p i)) := by
  unfold anyLong
  rw [take_ix h, List.any_append]
  simp
theorem bad_take (h : k < p.length) : anyBad (p.take (k + 1)) = (anyBad (p.take k) || !(spotsB (ix p k))) := by
  unfold anyBad
  rw [take_ix h, List.any_append]
  simp
theorem w1_0 : w1V t r y p 0 = startE t r y := by
  unfold w1V
  split
  · rfl
  · rename_i h
    rw [if_neg (by simp [anyLong])]
    omega
theorem w1_yes (hi : i < p.length) (h0 : w1V t r y p i = 0) (h : (40 : Int) < ((p.length : Nat) : Int) ∨ (20 : Int) < (((ix p i).length : Nat) : Int)) : w1V t r y p (i + 1) = 5 := by
  unfold w1V at h0 ⊢
  split at h0
  · rename_i h1; exact absurd h0 h1
  · rename_i h1
    rw [if_neg h1, if_pos]
    rw [long_take hi]
    rcases h with h | h
    · rw [decide_eq_true (show 0 < i + 1 by omega), decide_eq_true h]
      rfl
    · have : longB (ix p i) = true := decide_eq_true h
      rw [this, Bool.or_true, Bool.or_true]
theorem w1_no1 (hi : i < p.length) (h0 : w1V t r y p i ≠ 0) : w1V t r y p (i + 1) = w1V t r y p i := by
  unfold w1V at h0 ⊢
  split
  · rfl
  · rename_i h1
    rw [if_neg h1] at h0
    split at h0
    · rename_i h2
      rw [if_pos h2, if_pos]
      rw [long_take hi]
      rw [Bool.or_eq_true, Bool.and_eq_true, decide_eq_true_eq, decide_eq_true_eq] at h2
      rcases h2 with ⟨_, h2⟩ | h2
      · rw [decide_eq_true (show 0 < i + 1 by omega), decide_eq_true h2]
        rfl
      · rw [h2, Bool.true_or, Bool.or_true]
    · exact absurd rfl h0
theorem w1_no2 (hi : i < p.length) (h : ¬ (40 : Int) < ((p.length : Nat) : Int)) (h2 : ¬ (20 : Int) < (((ix p i).length : Nat) : Int)) : w1V t r y p (i + 1) = w1V t r y p i := by
  have e1 : longB (ix p i) = false := decide_eq_false h2
  unfold w1V
  rw [long_take hi, e1, Bool.or_false, decide_eq_false h, Bool.and_false, Bool.and_false]
theorem w1_end (hi : i ≤ p.length) (h : p.length ≤ i) : w1V t r y p i = w2V t r y p := by
  unfold w1V w2V
  rw [List.take_of_length_le h]
  by_cases h0 : 0 < i
  · rw [decide_eq_true h0, Bool.true_and]
  · have e : decide ((40 : Int) < ((p.length : Nat) : Int)) = false := decide_eq_false (by omega)
    rw [e, Bool.and_false]
theorem w2_y (h : w2V t r y p = 0) : startE t r y = 0 ∧ 0 ≤ y ∧ y ≤ 9999 := by
  unfold w2V at h
  split at h
  · rename_i h0; exact absurd h h0
  · rename_i h0
    have h0 : startE t r y = 0 := by omega
    obtain ⟨k1, _, k3⟩ := startE_0.1 h0
    have := k1.year
    exact ⟨h0, by omega, by omega⟩
theorem w3_01 (h : w2V t r y p = 0) (h2 : 9999 < y + ((p.length : Nat) : Int) - 1) : w3V t r y p 0 = 3 := by
  unfold w3V
  rw [if_neg (by omega), if_pos]
  rw [decide_eq_true h2, Bool.true_or]
theorem w3_02 (h : w2V t r y p ≠ 0) : w3V t r y p 0 = w2V t r y p := by unfold w3V; rw [if_pos h]
theorem w3_03 (h : w2V t r y p = 0) (h2 : ¬ 9999 < y + ((p.length : Nat) : Int) - 1) : w3V t r y p 0 = w2V t r y p := by
  unfold w3V
  rw [if_neg (by omega), if_neg, h]
  rw [decide_eq_false h2]
  simp [anyBad]
theorem w3_yes (hk : k < p.length) (h0 : w3V t r y p k = 0) (h : spotsB (ix p k) = false) : w3V t r y p (k + 1) = 3 := by
  unfold w3V at h0 ⊢
  split at h0
  · rename_i h1; exact absurd h0 h1
  · rename_i h1
    rw [if_neg h1, if_pos]
    rw [bad_take hk, h]
    simp
theorem w3_no (hk : k < p.length) (h : spotsB (ix p k) = true) : w3V t r y p (k + 1) = w3V t r y p k := by
  unfold w3V
  rw [bad_take hk, h]
  simp
theorem bad_flat {p : List (List Spt)} : anyBad p = !(spotsB p.flatten) := by
  cases h : spotsB p.flatten with
  | true =>
    unfold anyBad
    rw [Bool.not_true, List.any_eq_false]
    intro q hq
    simp [spots_flat.1 h q hq]
  | false =>
    unfold anyBad
    rw [Bool.not_false, List.any_eq_true]
    refine Classical.byContradiction fun hn => ?_
    have : spotsB p.flatten = true := spots_flat.2 fun l hl => by
      cases hb : spotsB l with
      | true => rfl
      | false => exact absurd ⟨l, hl, by simp [hb]⟩ hn
    rw [h] at this
    cases this
theorem w3_end1 (h : p.length ≤ k) : w3V t r y p k = verE t r y p := by
  unfold w3V verE w2V
  rw [List.take_of_length_le h, bad_flat]
  by_cases h0 : startE t r y ≠ 0
  · rw [if_pos h0, if_pos h0, if_pos h0]
  · rw [if_neg h0, if_neg h0]
    by_cases h2 : (decide ((40 : Int) < ((p.length : Nat) : Int)) || anyLong p) = true
    · rw [if_pos h2, if_pos h2, if_pos (by decide)]
    · rw [if_neg h2, if_neg h2, if_neg (by decide)]
theorem w3_end2 (h : w3V t r y p k ≠ 0) : w3V t r y p k = verE t r y p := by
  rw [← w3_end1 (t := t) (r := r) (y := y) (p := p) (Nat.le_refl p.length)]
  unfold w3V at h ⊢
  split
  · rfl
  · rename_i h1
    rw [if_neg h1] at h
    split at h
    · rename_i h2
      rw [if_pos h2, if_pos]
      rw [Bool.or_eq_true] at h2 ⊢
      rcases h2 with h2 | h2
      · exact .inl h2
      · refine .inr ?_
        unfold anyBad at h2 ⊢
        rw [List.any_eq_true] at h2 ⊢
        obtain ⟨q, hq, h3⟩ := h2
        exact ⟨q, by rw [List.take_length]; exact List.mem_of_mem_take hq, h3⟩
    · exact absurd rfl h
end
end Go.Proofs.Ytbpblhmigijkaaa
