/- TrunkRoom: how many taps there is room for; plain laws. -/
import Derived.Test.YtbpblhmigijkaaaTfh
namespace Go.Proofs.Ytbpblhmigijkaaa
open Go.RowKit
set_option linter.unusedVariables false
def NextOf (p : Int → Bool) (n : Nat → Int) : Prop := ∀ a : Int, 0 ≤ a → (fromV n a = 7200 ∧ ∀ k, a ≤ k → k < 3600 → p k = false) ∨ (a ≤ fromV n a ∧ fromV n a < 3600 ∧ p (fromV n a) = true ∧ ∀ k, a ≤ k → k < fromV n a → p k = false)
theorem nextL_of {p : Int → Bool} : ∀ {k : Nat} {a : Int}, a + k = 3600 → (nextL p k a = 7200 ∧ ∀ z, a ≤ z → z < 3600 → p z = false) ∨ (a ≤ nextL p k a ∧ nextL p k a < 3600 ∧ p (nextL p k a) = true ∧ ∀ z, a ≤ z → z < nextL p k a → p z = false) := by
 intro k
 induction k with
 | zero => intro a h; exact .inl ⟨rfl, fun z h1 h2 => by omega⟩
 | succ k ih =>
  intro a h
  simp only [nextL]
  cases hp : p a with
  | true =>
   rw [if_pos rfl]
   exact .inr ⟨Int.le_refl a, by omega, hp, fun z h1 h2 => by omega⟩
  | false =>
   rw [if_neg Bool.false_ne_true]
   rcases ih (a := a + 1) (by omega) with ⟨h1, h2⟩ | ⟨h1, h2, h3, h4⟩
   ·refine .inl ⟨h1, fun z q1 q2 => ?_⟩
    by_cases e : z = a
    ·rw [e]; exact hp
    ·exact h2 z (by omega) q2
   ·refine .inr ⟨by omega, h2, h3, fun z q1 q2 => ?_⟩
    by_cases e : z = a
    ·rw [e]; exact hp
    ·exact h4 z (by omega) q2
theorem next_of (x : TrkV) (e : Int) : NextOf (roomB x e) (nextV x e) := fun a ha => by
 unfold fromV
 by_cases h : a < 3600
 ·have e1 : (min a 3600).toNat = a.toNat := by omega
  have e2 : (a.toNat : Int) = a := by omega
  have := nextL_of (p := roomB x e) (k := 3600 - a.toNat) (a := a) (by omega)
  rw [e1]
  unfold nextV
  rw [if_pos (by omega), e2]
  exact this
 ·refine .inl ⟨?_, fun k h1 h2 => by omega⟩
  unfold nextV
  rw [if_neg (by omega)]
theorem firsts_mem {p : Int → Bool} {n : Nat → Int} (h : NextOf p n) {f : Int} : ∀ {k : Nat} {a : Int}, 0 ≤ a → 3600 - a < k → (a < 3600 → p a = true) → (f ∈ firstsL n k a ↔ a ≤ f ∧ f < 3600 ∧ p f = true) := by
 intro k
 induction k with
 | zero => intro a h0 h1 _; simp only [firstsL, List.not_mem_nil, false_iff]; omega
 | succ k ih =>
  intro a h0 h1 hp
  by_cases ha : a < 3600
  ·simp only [firstsL, if_pos ha, List.mem_cons]
   rcases h (a + 1) (by omega) with ⟨q1, q2⟩ | ⟨q1, q2, q3, q4⟩
   ·rw [firstsL_stop (by omega)]
    constructor
    ·rintro (rfl | hf)
     ·exact ⟨Int.le_refl _, ha, hp ha⟩
     ·cases hf
    ·rintro ⟨g1, g2, g3⟩
     by_cases e : f = a
     ·exact .inl e
     ·rw [q2 f (by omega) g2] at g3; cases g3
   ·rw [ih (by omega) (by omega) fun _ => q3]
    constructor
    ·rintro (rfl | ⟨g1, g2, g3⟩)
     ·exact ⟨Int.le_refl _, ha, hp ha⟩
     ·exact ⟨by omega, g2, g3⟩
    ·rintro ⟨g1, g2, g3⟩
     by_cases e : f = a
     ·exact .inl e
     ·refine .inr ⟨?_, g2, g3⟩
      rcases Int.lt_or_le f (fromV n (a + 1)) with hlt | hle
      ·rw [q4 f (by omega) hlt] at g3; cases g3
      ·exact hle
  ·rw [firstsL_stop ha]
   simp only [List.not_mem_nil, false_iff]
   omega
theorem firstsV_mem {p : Int → Bool} {n : Nat → Int} (h : NextOf p n) {f : Int} : f ∈ firstsV n ↔ 0 ≤ f ∧ f < 3600 ∧ p f = true := by
 unfold firstsV
 rcases h 0 (Int.le_refl 0) with ⟨q1, q2⟩ | ⟨q1, q2, q3, q4⟩
 ·rw [firstsL_stop (by omega)]
  simp only [List.not_mem_nil, false_iff]
  rintro ⟨g1, g2, g3⟩
  rw [q2 f g1 g2] at g3
  cases g3
 ·rw [firsts_mem h (by omega) (by omega) fun _ => q3]
  constructor
  ·rintro ⟨g1, g2, g3⟩; exact ⟨by omega, g2, g3⟩
  ·rintro ⟨g1, g2, g3⟩
   refine ⟨?_, g2, g3⟩
   rcases Int.lt_or_le f (fromV n 0) with hlt | hle
   ·rw [q4 f g1 hlt] at g3; cases g3
   ·exact hle
theorem foldMost {n : Nat → Int} {g : Int} : ∀ {l : List Int} {m : Int}, m ≤ l.foldl (mostS n g) m ∧ (∀ f, f ∈ l → ((rowV n g f).length : Int) ≤ l.foldl (mostS n g) m) ∧ (l.foldl (mostS n g) m = m ∨ ∃ f, f ∈ l ∧ l.foldl (mostS n g) m = ((rowV n g f).length : Int)) := by
 intro l
 induction l with
 | nil => intro m; exact ⟨Int.le_refl m, fun f hf => (by cases hf), .inl rfl⟩
 | cons f l ih =>
  intro m
  rw [List.foldl_cons]
  obtain ⟨h1, h2, h3⟩ := ih (m := mostS n g m f)
  have hd : mostS n g m f = max m ((rowV n g f).length : Int) := rfl
  refine ⟨by omega, fun q hq => ?_, ?_⟩
  ·rcases List.mem_cons.1 hq with rfl | hq
   ·omega
   ·exact h2 q hq
  ·rcases h3 with h3 | ⟨q, hq, h3⟩
   ·by_cases e : m < ((rowV n g f).length : Int)
    ·exact .inr ⟨f, List.mem_cons_self, by omega⟩
    ·exact .inl (by omega)
   ·exact .inr ⟨q, List.mem_cons_of_mem _ hq, h3⟩
theorem most_ge {n : Nat → Int} {g f : Int} (h : f ∈ firstsV n) : ((rowV n g f).length : Int) ≤ mostV n g := foldMost.2.1 f h
theorem most_nn {n : Nat → Int} {g : Int} : 0 ≤ mostV n g := foldMost.1
theorem most_at {n : Nat → Int} {g : Int} : mostV n g = 0 ∨ ∃ f, f ∈ firstsV n ∧ mostV n g = ((rowV n g f).length : Int) := foldMost.2.2
theorem row_all {p : Int → Bool} {n : Nat → Int} (hn : NextOf p n) {g f : Int} (hg : 1 ≤ g) (hf : 0 ≤ f ∧ f < 3600 ∧ p f = true) : ∀ {k : Nat} {a : Int}, f ≤ a → (a < 3600 → p a = true) →
  (∀ z, z ∈ rowL n g f k a → a ≤ z ∧ z < 3600 ∧ p z = true ∧ (z = f ∨ z ≤ f + 3600 - g)) ∧ (rowL n g f k a).Pairwise fun u v => u + g ≤ v := by
 intro k
 induction k with
 | zero => intro a _ _; exact ⟨fun z hz => (by cases hz), List.Pairwise.nil⟩
 | succ k ih =>
  intro a h1 h2
  by_cases hc : a = f ∨ (a ≤ f + 3600 - g ∧ a < 3600)
  ·simp only [rowL, if_pos hc]
   have ha : a < 3600 := by omega
   have hnx : a + g ≤ fromV n (a + g) ∧ (fromV n (a + g) < 3600 → p (fromV n (a + g)) = true) ∨ fromV n (a + g) = 7200 := by
    rcases hn (a + g) (by omega) with ⟨r1, _⟩ | ⟨r1, r2, r3, _⟩
    ·exact .inr r1
    ·exact .inl ⟨r1, fun _ => r3⟩
   rcases hnx with ⟨r1, r2⟩ | r1
   ·obtain ⟨i1, i2⟩ := ih (a := fromV n (a + g)) (by omega) r2
    refine ⟨fun z hz => ?_, List.pairwise_cons.2 ⟨fun v hv => ?_, i2⟩⟩
    ·rcases List.mem_cons.1 hz with rfl | hz
     ·exact ⟨Int.le_refl _, ha, h2 ha, by omega⟩
     ·have := i1 z hz
      exact ⟨by omega, this.2.1, this.2.2.1, this.2.2.2⟩
    ·have := i1 v hv
     omega
   ·rw [rowL_stop (n := n) (by omega)]
    refine ⟨fun z hz => ?_, List.pairwise_singleton _ _⟩
    rw [List.mem_singleton.1 hz]
    exact ⟨Int.le_refl _, ha, h2 ha, by omega⟩
  ·rw [rowL_stop hc]
   exact ⟨fun z hz => (by cases hz), List.Pairwise.nil⟩
theorem rowV_cons {n : Nat → Int} {g f : Int} : rowV n g f = f :: rowL n g f 3600 (fromV n (f + g)) := by
 unfold rowV
 exact rowL_cons (k := 3601) (by omega) (.inl rfl)
theorem most_none {p : Int → Bool} {n : Nat → Int} (hn : NextOf p n) (hp : ∀ k, 0 ≤ k → k < 3600 → p k = false) {g : Int} : mostV n g = 0 := by
 rcases most_at (n := n) (g := g) with h | ⟨f, hf, _⟩
 ·exact h
 ·obtain ⟨h1, h2, h3⟩ := (firstsV_mem hn).1 hf
  rw [hp f h1 h2] at h3
  cases h3
theorem angO_some {n : Nat → Int} {g m : Int} (hm : 1 ≤ m) : (anglesO n g m).isSome = true ↔ m ≤ mostV n g := by
 unfold anglesO
 rw [if_neg (by omega), List.findSome?_isSome_iff]
 constructor
 ·rintro ⟨f, hf, h⟩
  have := most_ge (g := g) hf
  unfold angF at h
  split at h
  ·omega
  ·cases h
 ·intro h
  rcases most_at (n := n) (g := g) with h1 | ⟨f, hf, h1⟩
  ·omega
  ·refine ⟨f, hf, ?_⟩
   unfold angF
   rw [if_pos (by omega)]
   rfl
structure AngOk (p : Int → Bool) (g : Int) (m : Int) (l : List Int) : Prop where
 len : (l.length : Int) = m
 ok : ∀ z, z ∈ l → 0 ≤ z ∧ z < 3600 ∧ p z = true
 far : l.Pairwise fun u v => u + g ≤ v ∧ v - u ≤ 3600 - g
theorem angO_ok {p : Int → Bool} {n : Nat → Int} (hn : NextOf p n) {g m : Int} (hg : 1 ≤ g) (hm : 0 ≤ m) {l : List Int} (h : anglesO n g m = some l) : AngOk p g m l := by
 unfold anglesO at h
 split at h
 ·rename_i h0
  cases h
  exact ⟨by simp [h0], fun z hz => (by cases hz), List.Pairwise.nil⟩
 ·obtain ⟨f, hf, h⟩ := List.exists_of_findSome?_eq_some h
  unfold angF at h
  split at h
  ·rename_i hl
   cases h
   have hff := (firstsV_mem hn).1 hf
   obtain ⟨h1, h2⟩ := row_all hn hg hff (k := 3601) (a := f) (Int.le_refl f) fun _ => hff.2.2
   have hmem : ∀ z, z ∈ (rowV n g f).take m.toNat → z ∈ rowV n g f := fun z hz => List.mem_of_mem_take hz
   refine ⟨by rw [List.length_take]; omega, fun z hz => ?_, ?_⟩
   ·have := h1 z (hmem z hz)
    exact ⟨by omega, this.2.1, this.2.2.1⟩
   ·have hp : ((rowV n g f).take m.toNat).Pairwise fun u v => u + g ≤ v := List.Pairwise.sublist (List.take_sublist _ _) h2
    refine List.Pairwise.imp_of_mem ?_ hp
    intro u v hu hv huv
    have q1 := h1 u (hmem u hu)
    have q2 := h1 v (hmem v hv)
    omega
  ·cases h
theorem pair_ix {α : Type} [Inhabited α] {R : α → α → Prop} {l : List α} (h : l.Pairwise R) {i k : Nat} (hk : k < i) (hi : i < l.length) : R (ix l k) (ix l i) := by
 have := List.pairwise_iff_getElem.1 h k i (by omega) hi hk
 unfold ix
 rw [List.getD_eq_getElem?_getD, List.getD_eq_getElem?_getD, List.getElem?_eq_getElem (show k < l.length by omega), List.getElem?_eq_getElem hi]
 exact this
theorem ix_mapP {α β : Type} [Inhabited α] [Inhabited β] {f : α → β} {l : List α} {i : Nat} (h : i < l.length) : ix (l.map f) i = f (ix l i) := by
 unfold ix
 rw [List.getD_eq_getElem?_getD, List.getD_eq_getElem?_getD, List.getElem?_map, List.getElem?_eq_getElem h]
 rfl
structure SpotsOk (x : TrkV) (e m : Int) (l : List Spt) : Prop where
 len : (l.length : Int) = m
 ok : ∀ i, i < l.length → (ix l i).height = e ∧ 0 ≤ (ix l i).angle ∧ (ix l i).angle < 3600 ∧ roomB x e (ix l i).angle = true
 far : ∀ k i, k < i → i < l.length → (ix l k).angle + gapV x ≤ (ix l i).angle ∧ (ix l i).angle - (ix l k).angle ≤ 3600 - gapV x
theorem spotsL_ok {x : TrkV} (hx : TrkOk x) {e m : Int} (hm : 0 ≤ m) (h : (anglesO (nextV x e) (gapV x) m).isSome = true) : SpotsOk x e m (spotsL x e m) := by
 obtain ⟨l, hl⟩ := Option.isSome_iff_exists.1 h
 have ha := angO_ok (next_of x e) (gap_bd hx).1 hm hl
 have e1 : spotsL x e m = l.map fun a => ⟨a, e⟩ := by unfold spotsL; rw [hl]; rfl
 rw [e1]
 have hlen : (l.map fun a => (⟨a, e⟩ : Spt)).length = l.length := List.length_map _
 refine ⟨by rw [hlen]; exact ha.len, fun i hi => ?_, fun k i hk hi => ?_⟩
 ·rw [hlen] at hi
  rw [ix_mapP hi]
  exact ⟨rfl, ha.ok _ (ix_mem hi)⟩
 ·rw [hlen] at hi
  rw [ix_mapP hi, ix_mapP (by omega)]
  exact pair_ix ha.far hk hi
end Go.Proofs.Ytbpblhmigijkaaa
