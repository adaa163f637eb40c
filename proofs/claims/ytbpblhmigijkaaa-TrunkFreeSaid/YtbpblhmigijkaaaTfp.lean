/- TrunkFree: plain laws. -/
import Derived.Test.YtbpblhmigijkaaaTr
namespace Go.Proofs.Ytbpblhmigijkaaa
open Go.RowKit
set_option linter.unusedVariables false
theorem within5 {e : Int} : within 0 5000 [e] = true ↔ 0 ≤ e ∧ e ≤ 5000 := within1
theorem atE_in {t : TreeV} {r : RuleV} {y e : Int} (h : atE t r y e = 0) : startE t r y = 0 ∧ 0 ≤ e ∧ e ≤ 5000 := by
  unfold atE at h
  split at h
  · rename_i h1; exact absurd h h1
  · rename_i h1
    split at h
    · rename_i h2; exact ⟨Decidable.not_not.1 h1, within5.1 h2⟩
    · cases h
theorem want_no {t : TreeV} {r : RuleV} {y e : Int} (h : startE t r y ≠ 0) : atE t r y e = startE t r y := if_pos h
theorem want_out {t : TreeV} {r : RuleV} {y e : Int} (h : startE t r y = 0) (he : e < 0 ∨ 5000 < e) : atE t r y e = 3 := by
  unfold atE
  rw [if_neg (fun h2 => h2 h), if_neg (fun h2 => by have := within5.1 h2; omega)]
theorem want_in {t : TreeV} {r : RuleV} {y e : Int} (h : startE t r y = 0) (he : 0 ≤ e ∧ e ≤ 5000) : atE t r y e = 0 := by
  unfold atE
  rw [if_neg (fun h2 => h2 h), if_pos (within5.2 he)]
theorem free_bad {t : TreeV} {r : RuleV} {y e m : Int} (h : atE t r y e ≠ 0) : freeR t r y e = [] ∧ mostR t r y e = 0 ∧ spotsE t r y e m = atE t r y e ∧ spotsR t r y e m = [] := by
  have h1 : spotsE t r y e m = atE t r y e := if_pos h
  refine ⟨if_neg h, if_neg h, h1, ?_⟩
  unfold spotsR
  rw [h1, if_neg h]
theorem free_good {t : TreeV} {r : RuleV} {y e : Int} (h : atE t r y e = 0) : freeR t r y e = freeV (openV t r y) e ∧ mostR t r y e = mostV (nextV (openV t r y) e) (gapV (openV t r y)) := ⟨if_pos h, if_pos h⟩
theorem spotsE_out {t : TreeV} {r : RuleV} {y e m : Int} (h : atE t r y e = 0) (hm : m < 0 ∨ 20 < m) : spotsE t r y e m = 3 ∧ spotsR t r y e m = [] := by
  have h1 : spotsE t r y e m = 3 := by
    unfold spotsE
    rw [if_neg (fun h2 => h2 h), if_neg (fun h2 => by have := within1.1 h2; omega)]
  refine ⟨h1, ?_⟩
  unfold spotsR
  rw [h1, if_neg (by decide)]
theorem spotsE_no {t : TreeV} {r : RuleV} {y e m : Int} (h : atE t r y e = 0) (hm : 0 ≤ m ∧ m ≤ 20) (hn : (anglesO (nextV (openV t r y) e) (gapV (openV t r y)) m).isSome = false) : spotsE t r y e m = 7 ∧ spotsR t r y e m = [] := by
  have h1 : spotsE t r y e m = 7 := by
    unfold spotsE
    rw [if_neg (fun h2 => h2 h), if_pos (within1.2 hm), if_neg (by rw [hn]; decide)]
  refine ⟨h1, ?_⟩
  unfold spotsR
  rw [h1, if_neg (by decide)]
theorem spotsE_yes {t : TreeV} {r : RuleV} {y e m : Int} (h : atE t r y e = 0) (hm : 0 ≤ m ∧ m ≤ 20) (hn : (anglesO (nextV (openV t r y) e) (gapV (openV t r y)) m).isSome = true) : spotsE t r y e m = 0 ∧ spotsR t r y e m = spotsL (openV t r y) e m := by
  have h1 : spotsE t r y e m = 0 := by
    unfold spotsE
    rw [if_neg (fun h2 => h2 h), if_pos (within1.2 hm), if_pos hn]
  refine ⟨h1, ?_⟩
  unfold spotsR
  rw [if_pos h1]
end Go.Proofs.Ytbpblhmigijkaaa
