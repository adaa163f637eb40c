/- Which angles are free: just those that no hole forbids. Plain laws. -/
import Derived.Test.YtbpblhmigijkaaaTv
namespace Go.Proofs.Ytbpblhmigijkaaa
open Go.RowKit
set_option linter.unusedVariables false
theorem inS_iff {s : List Rg} {a : Int} : inS s a = true ↔ ∃ r, r ∈ s ∧ r.low ≤ a ∧ a ≤ r.high := by
 unfold inS
 rw [List.any_eq_true]
 constructor
 ·rintro ⟨r, h, h2⟩
  rw [Bool.and_eq_true, decide_eq_true_eq, decide_eq_true_eq] at h2
  exact ⟨r, h, h2⟩
 ·rintro ⟨r, h, h2⟩
  refine ⟨r, h, ?_⟩
  rw [Bool.and_eq_true, decide_eq_true_eq, decide_eq_true_eq]
  exact h2
theorem inS_split {s : List Rg} {r : Rg} {a : Int} (hr : r.low ≤ r.high) : inS (splitL s r) a = true ↔ inS s a = true ∧ ¬ (r.low ≤ a ∧ a ≤ r.high) := by
 rw [inS_iff, inS_iff]
 constructor
 ·rintro ⟨q, hq, h1⟩
  obtain ⟨x, hx, hq⟩ := List.mem_flatMap.1 hq
  rcases List.mem_append.1 hq with hq | hq
  ·have := mem_lowP hq
   exact ⟨⟨x, hx, by omega, by omega⟩, by omega⟩
  ·have := mem_highP hq
   exact ⟨⟨x, hx, by omega, by omega⟩, by omega⟩
 ·rintro ⟨⟨x, hx, h1⟩, h2⟩
  by_cases h : a < r.low
  ·refine ⟨⟨x.low, min x.high (r.low - 1)⟩, List.mem_flatMap.2 ⟨x, hx, List.mem_append_left _ ?_⟩, by simp only; omega⟩
   unfold lowP
   rw [if_pos (by omega)]
   exact List.mem_singleton_self _
  ·refine ⟨⟨max x.low (r.high + 1), x.high⟩, List.mem_flatMap.2 ⟨x, hx, List.mem_append_right _ ?_⟩, by simp only; omega⟩
   unfold highP
   rw [if_pos (by omega)]
   exact List.mem_singleton_self _
theorem inS_off {s : List Rg} {n : Nat} {r : Rg} {a : Int} (hs : FreeOk s n) (h : 0 ≤ r.low ∧ r.low ≤ r.high ∧ r.high ≤ 3599) : inS (offR s r) a = true ↔ inS s a = true ∧ ¬ (r.low ≤ a ∧ a ≤ r.high) := by
 rw [off_split hs h]
 exact inS_split h.2.1
theorem inS_foldOff {a : Int} : ∀ {l : List Rg} {s : List Rg} {n : Nat}, FreeOk s n → (∀ r, r ∈ l → 0 ≤ r.low ∧ r.low ≤ r.high ∧ r.high ≤ 3599) → (inS (l.foldl offR s) a = true ↔ inS s a = true ∧ ¬ inS l a = true) := by
 intro l
 induction l with
 | nil => intro s n _ _; simp [inS]
 | cons r l ih =>
  intro s n h hl
  rw [List.foldl_cons, ih (off_ok h (hl r List.mem_cons_self)) fun q hq => hl q (List.mem_cons_of_mem _ hq), inS_off h (hl r List.mem_cons_self)]
  have : inS (r :: l) a = true ↔ (r.low ≤ a ∧ a ≤ r.high) ∨ inS l a = true := by
   unfold inS
   rw [List.any_cons, Bool.or_eq_true, Bool.and_eq_true, decide_eq_true_eq, decide_eq_true_eq]
  rw [this]
  constructor
  ·rintro ⟨⟨h1, h2⟩, h3⟩; exact ⟨h1, fun h => h.elim h2 h3⟩
  ·rintro ⟨h1, h2⟩; exact ⟨⟨h1, fun h => h2 (.inl h)⟩, fun h => h2 (.inr h)⟩
theorem inS_app {a : Int} {s t : List Rg} : inS (s ++ t) a = true ↔ inS s a = true ∨ inS t a = true := by
 unfold inS
 rw [List.any_append, Bool.or_eq_true]
theorem inS_arcR {lo hi b a : Int} (ha : 0 ≤ a ∧ a ≤ 3599) : inS (arcR lo hi b) a = true ↔ lo + b ≤ a ∧ a ≤ hi + b := by
 rw [inS_iff]
 unfold arcR
 constructor
 ·rintro ⟨r, hr, h⟩
  split at hr
  ·rw [List.mem_singleton.1 hr] at h
   simp only at h
   omega
  ·cases hr
 ·intro h
  rw [if_pos (by omega)]
  exact ⟨_, List.mem_singleton_self _, by simp only; omega⟩
theorem inS_arc {c m a : Int} (hc : 0 ≤ c ∧ c ≤ 3599) (ha : 0 ≤ a ∧ a ≤ 3599) (hm : 0 ≤ m) : inS (arcV c m) a = true ↔ turnV c a ≤ m := by
 unfold arcV turnV
 split
 ·rw [inS_iff]
  constructor
  ·intro _; omega
  ·intro _; exact ⟨_, List.mem_singleton_self _, by simp only; omega⟩
 ·rw [inS_app, inS_app, inS_arcR ha, inS_arcR ha, inS_arcR ha]
  omega
theorem near_le {u : Tru} (hu : TruOk u) (hs : u.side ≠ 0) {k : Int} (hk : 0 ≤ k) : k ≤ nearV u ↔ k * u.girth < 3600 * u.side := by
 have h1 := hu.girth
 have h2 := hu.side
 unfold nearV
 rw [Int.tdiv_eq_ediv_of_nonneg (by omega), Int.le_ediv_iff_mul_le (by omega)]
 omega
theorem near_pos {u : Tru} (hu : TruOk u) (hs : u.side ≠ 0) : 0 ≤ nearV u := by
 have h1 := hu.girth
 have h2 := hu.side
 rw [near_le hu hs (Int.le_refl 0), Int.zero_mul]
 omega
theorem forb_iff {y a e : Int} {h : Hol} {u : Tru} : forbidsV y h ⟨a, e⟩ u = true ↔ countsV y h u = true ∧ levelV u h e = true ∧ turnV h.angle a * u.girth < 3600 * u.side := by
 unfold forbidsV
 rw [Bool.and_eq_true, Bool.and_eq_true, decide_eq_true_eq]
theorem turn_nn {a b : Int} (ha : 0 ≤ a ∧ a ≤ 3599) (hb : 0 ≤ b ∧ b ≤ 3599) : 0 ≤ turnV a b := by unfold turnV; omega
theorem inS_freeS {x : TrkV} (hx : TrkOk x) {e a : Int} {s : List Rg} {n : Nat} {h : Hol} (hs : FreeOk s n) (hh : holeOk h) (ha : 0 ≤ a ∧ a ≤ 3599) : inS (freeS x e (nearV x.worst) s h) a = true ↔ inS s a = true ∧ ¬ forbidsV x.year h ⟨a, e⟩ x.worst = true := by
 rw [forb_iff]
 have hg := hx.worst.girth
 have ht := turn_nn hh.2.1 ha
 have hm := Int.mul_nonneg ht (show 0 ≤ x.worst.girth by omega)
 by_cases h1 : x.worst.side = 0
 ·rw [free_no1 h1, h1]
  constructor
  ·intro q; exact ⟨q, by omega⟩
  ·exact fun q => q.1
 ·cases h2 : countsV x.year h x.worst with
  | false =>
   rw [free_no (.inr (.inl h2))]
   simp
  | true =>
   cases h3 : levelV x.worst h e with
   | false =>
    rw [free_no (.inr (.inr h3))]
    simp
   | true =>
    rw [free_arc h1 h2 h3, inS_foldOff hs arcV_ok.1, inS_arc hh.2.1 ha (near_pos hx.worst h1), near_le hx.worst h1 ht]
    simp
theorem inS_foldS {x : TrkV} (hx : TrkOk x) {e a : Int} (ha : 0 ≤ a ∧ a ≤ 3599) : ∀ {l : List Hol} {s : List Rg} {n : Nat}, FreeOk s n → (∀ h, h ∈ l → holeOk h) → (inS (l.foldl (freeS x e (nearV x.worst)) s) a = true ↔ inS s a = true ∧ ∀ h, h ∈ l → ¬ forbidsV x.year h ⟨a, e⟩ x.worst = true) := by
 intro l
 induction l with
 | nil => intro s n _ _; simp
 | cons h l ih =>
  intro s n hs hl
  rw [List.foldl_cons, ih (freeS_ok hs) fun q hq => hl q (List.mem_cons_of_mem _ hq), inS_freeS hx hs (hl h List.mem_cons_self) ha]
  constructor
  ·rintro ⟨⟨h1, h2⟩, h3⟩
   refine ⟨h1, fun q hq => ?_⟩
   rcases List.mem_cons.1 hq with rfl | hq
   ·exact h2
   ·exact h3 q hq
  ·rintro ⟨h1, h2⟩
   exact ⟨⟨h1, h2 h List.mem_cons_self⟩, fun q hq => h2 q (List.mem_cons_of_mem _ hq)⟩
theorem free_iff {x : TrkV} (hx : TrkOk x) {e a : Int} (ha : 0 ≤ a ∧ a ≤ 3599) : inS (freeV x e) a = true ↔ ∀ h, h ∈ x.t.holes → forbidsV x.year h ⟨a, e⟩ x.worst = false := by
 unfold freeV
 rw [inS_foldS hx ha first_ok hx.t.hole]
 constructor
 ·rintro ⟨_, h⟩ q hq
  exact Bool.eq_false_iff.2 (h q hq)
 ·intro h
  refine ⟨?_, fun q hq => Bool.eq_false_iff.1 (h q hq)⟩
  rw [inS_iff]
  exact ⟨_, List.mem_singleton_self _, by simp only; omega⟩
theorem mem_ix {α : Type} [Inhabited α] {l : List α} {x : α} (h : x ∈ l) : ∃ j, j < l.length ∧ ix l j = x := by
 obtain ⟨k, hk, rfl⟩ := List.getElem_of_mem h
 refine ⟨k, hk, ?_⟩
 unfold ix
 rw [List.getD_eq_getElem?_getD, List.getElem?_eq_getElem hk]
 rfl
end Go.Proofs.Ytbpblhmigijkaaa
