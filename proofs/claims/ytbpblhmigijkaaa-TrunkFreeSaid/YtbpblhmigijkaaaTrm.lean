/- TrunkRoom: how many taps there is room for; plain laws. -/
import Derived.Test.YtbpblhmigijkaaaTfh
namespace Go.Proofs.Ytbpblhmigijkaaa
open Go.RowKit
set_option linter.unusedVariables false
def NextOf (p : Int → Bool) (n : Nat → Int) : Prop := ∀ a : Int, 0 ≤ a → (fromV n a = 7200 ∧ ∀ k, a ≤ k → k < 3600 → p k = false) ∨ (a ≤ fromV n a ∧ fromV n a < 3600 ∧ p (fromV n a) = true ∧ ∀ k, a ≤ k → k < fromV n a → p k = false)
theorem nextL_of {p : Int → Bool} : ∀ {k : Nat} {a : Int}, a + k = 3600 → (nextL p k a = 7200 ∧ ∀ z, a ≤ z → z < 3600 → p z = false) ∨ (a ≤ nextL p k a ∧ nextL p k a < 3600 ∧ p (nextL p k a) = true ∧ ∀ z, a ≤ z → z < nextL p k a → p z = false) := by
  intro k
  induction k with
  | zero => intro a h; exact .inl ⟨rfl, fun z h1 h2 => by omega⟩
  | succ k ih =>
    intro a h
    simp only [nextL]
    cases hp : p a with
    | true =>
      rw [if_pos rfl]
      exact .inr ⟨Int.le_refl a, by omega, hp, fun z h1 h2 => by omega⟩
    | false =>
      rw [if_neg Bool.false_ne_true]
      rcases ih (a := a + 1) (by omega) with ⟨h1, h2⟩ | ⟨h1, h2, h3, h4⟩
      · refine .inl ⟨h1, fun z q1 q2 => ?_⟩
        by_cases e : z = a
        · rw [e]; exact hp
        · exact h2 z (by omega) q2
      · refine .inr ⟨by omega, h2, h3, fun z q1 q2 => ?_⟩
        by_cases e : z = a
        · rw [e]; exact hp
        · exact h4 z (by omega) q2
theorem next_of (x : TrkV) (e : Int) : NextOf (roomB x e) (nextV x e) := fun a ha => by
  unfold fromV
  by_cases h : a < 3600
  · have e1 : (min a 3600).toNat = a.toNat := by omega
    have e2 : ((a.toNat : Nat) : Int) = a := by omega
    have := nextL_of (p := roomB x e) (k := 3600 - a.toNat) (a := a) (by omega)
    rw [e1]
    unfold nextV
    rw [if_pos (by omega), e2]
    exact this
  · refine .inl ⟨?_, fun k h1 h2 => by omega⟩
    unfold nextV
    rw [if_neg (by omega)]
theorem firsts_mem {p : Int → Bool} {n : Nat → Int} (h : NextOf p n) {f : Int} : ∀ {k : Nat} {a : Int}, 0 ≤ a → 3600 - a < k → (a < 3600 → p a = true) → (f ∈ firstsL n k a ↔ a ≤ f ∧ f < 3600 ∧ p f = true) := by
  intro k
  induction k with
  | zero => intro a h0 h1 _; simp only [firstsL, List.not_mem_nil, false_iff]; omega
  | succ k ih =>
    intro a h0 h1 hp
    by_cases ha : a < 3600
    · simp only [firstsL, if_pos ha, List.mem_cons]
      rcases h (a + 1) (by omega) with ⟨q1, q2⟩ | ⟨q1, q2, q3, q4⟩
      · rw [firstsL_stop (by omega)]
        constructor
        · rintro (rfl | hf)
          · exact ⟨Int.le_refl _, ha, hp ha⟩
          · cases hf
        · rintro ⟨g1, g2, g3⟩
          by_cases e : f = a
          · exact .inl e
          · rw [q2 f (by omega) g2] at g3; cases g3
      · rw [ih (by omega) (by omega) fun _ => q3]
        constructor
        · rintro (rfl | ⟨g1, g2, g3⟩)
          · exact ⟨Int.le_refl _, ha, hp ha⟩
          · exact ⟨by omega, g2, g3⟩
        · rintro ⟨g1, g2, g3⟩
          by_cases e : f = a
          · exact .inl e
          · refine .inr ⟨?_, g2, g3⟩
            rcases Int.lt_or_le f (fromV n (a + 1)) with hlt | hle
            · rw [q4 f (by omega) hlt] at g3; cases g3
            · exact hle
    · rw [firstsL_stop ha]
      simp only [List.not_mem_nil, false_iff]
      omega
theorem firstsV_mem {p : Int → Bool} {n : Nat → Int} (h : NextOf p n) {f : Int} : f ∈ firstsV n ↔ 0 ≤ f ∧ f < 3600 ∧ p f = true := by
  unfold firstsV
  rcases h 0 (Int.le_refl 0) with ⟨q1, q2⟩ | ⟨q1, q2, q3, q4⟩
  · rw [firstsL_stop (by omega)]
    simp only [List.not_mem_nil, false_iff]
    rintro ⟨g1, g2, g3⟩
    rw [q2 f g1 g2] at g3
    cases g3
  · rw [firsts_mem h (by omega) (by omega) fun _ => q3]
    constructor
    · rintro ⟨g1, g2, g3⟩; exact ⟨by omega, g2, g3⟩
    · rintro ⟨g1, g2, g3⟩
      refine ⟨?_, g2, g3⟩
      rcases Int.lt_or_le f (fromV n 0) with hlt | hle
      · rw [q4 f g1 hlt] at g3; cases g3
      · exact hle
-- the greatest number
theorem foldMost {n : Nat → Int} {g : Int} : ∀ {l : List Int} {m : Int}, m ≤ l.foldl (mostS n g) m ∧ (∀ f, f ∈ l → ((rowV n g f).length : Int) ≤ l.foldl (mostS n g) m) ∧ (l.foldl (mostS n g) m = m ∨ ∃ f, f ∈ l ∧ l.foldl (mostS n g) m = ((rowV n g f).length : Int)) := by
  intro l
  induction l with
  | nil => intro m; exact ⟨Int.le_refl m, fun f hf => (by cases hf), .inl rfl⟩
  | cons f l ih =>
    intro m
    rw [List.foldl_cons]
    obtain ⟨h1, h2, h3⟩ := ih (m := mostS n g m f)
    have hd : mostS n g m f = max m ((rowV n g f).length : Int) := rfl
    refine ⟨by omega, fun q hq => ?_, ?_⟩
    · rcases List.mem_cons.1 hq with rfl | hq
      · omega
      · exact h2 q hq
    · rcases h3 with h3 | ⟨q, hq, h3⟩
      · by_cases e : m < ((rowV n g f).length : Int)
        · exact .inr ⟨f, List.mem_cons_self, by omega⟩
        · exact .inl (by omega)
      · exact .inr ⟨q, List.mem_cons_of_mem _ hq, h3⟩
theorem most_ge {n : Nat → Int} {g f : Int} (h : f ∈ firstsV n) : ((rowV n g f).length : Int) ≤ mostV n g := foldMost.2.1 f h
theorem most_nn {n : Nat → Int} {g : Int} : 0 ≤ mostV n g := foldMost.1
theorem most_at {n : Nat → Int} {g : Int} : mostV n g = 0 ∨ ∃ f, f ∈ firstsV n ∧ mostV n g = ((rowV n g f).length : Int) := foldMost.2.2
theorem most_le {n : Nat → Int} {g M : Int} (h0 : 0 ≤ M) (h : ∀ f, f ∈ firstsV n → ((rowV n g f).length : Int) ≤ M) : mostV n g ≤ M := by
  rcases most_at (n := n) (g := g) with h1 | ⟨f, hf, h1⟩
  · omega
  · rw [h1]; exact h f hf
-- rows
theorem rowL_le {p p' : Int → Bool} {n n' : Nat → Int} (hn : NextOf p n) (hn' : NextOf p' n') (hp : ∀ k, 0 ≤ k → k < 3600 → p' k = true → p k = true) {g g' : Int} (hg : 1 ≤ g ∧ g ≤ g') {f : Int} (hf : 0 ≤ f ∧ f < 3600) : ∀ {k : Nat} {a a' : Int}, f ≤ a → a ≤ a' → (a' = f → a = f) → (rowL n' g' f k a').length ≤ (rowL n g f k a).length := by
  intro k
  induction k with
  | zero => intro a a' _ _ _; exact Nat.le_refl _
  | succ k ih =>
    intro a a' h1 h2 h3
    by_cases hc : a' = f ∨ (a' ≤ f + 3600 - g' ∧ a' < 3600)
    · have hc2 : a = f ∨ (a ≤ f + 3600 - g ∧ a < 3600) := by
        rcases hc with hc | hc
        · exact .inl (h3 hc)
        · exact .inr (by omega)
      simp only [rowL, if_pos hc, if_pos hc2, List.length_cons]
      have hle : fromV n (a + g) ≤ fromV n' (a' + g') := by
        rcases hn' (a' + g') (by omega) with ⟨q1, _⟩ | ⟨q1, q2, q3, _⟩
        · rcases hn (a + g) (by omega) with ⟨r1, _⟩ | ⟨_, r2, _⟩ <;> omega
        · rcases hn (a + g) (by omega) with ⟨r1, r2⟩ | ⟨r1, r2, r3, r4⟩
          · have := r2 _ (by omega) q2
            rw [hp _ (by omega) q2 q3] at this
            cases this
          · rcases Int.lt_or_le (fromV n' (a' + g')) (fromV n (a + g)) with hlt | hle
            · have := r4 _ (by omega) hlt
              rw [hp _ (by omega) q2 q3] at this
              cases this
            · exact hle
      have hge : f < fromV n (a + g) := by
        rcases hn (a + g) (by omega) with ⟨r1, _⟩ | ⟨r1, _⟩ <;> omega
      have := ih (a := fromV n (a + g)) (a' := fromV n' (a' + g')) (by omega) hle (by omega)
      omega
    · rw [rowL_stop hc]
      exact Nat.zero_le _
theorem most_less {p p' : Int → Bool} {n n' : Nat → Int} (hn : NextOf p n) (hn' : NextOf p' n') (hp : ∀ k, 0 ≤ k → k < 3600 → p' k = true → p k = true) {g g' : Int} (hg : 1 ≤ g ∧ g ≤ g') : mostV n' g' ≤ mostV n g := by
  refine most_le most_nn fun f hf => ?_
  obtain ⟨h1, h2, h3⟩ := (firstsV_mem hn').1 hf
  have := rowL_le hn hn' hp hg (f := f) ⟨h1, h2⟩ (k := 3601) (a := f) (a' := f) (Int.le_refl f) (Int.le_refl f) fun h => h
  have h4 := most_ge (g := g) ((firstsV_mem hn).2 ⟨h1, h2, hp f h1 h2 h3⟩)
  unfold rowV at h4 ⊢
  omega
theorem row_all {p : Int → Bool} {n : Nat → Int} (hn : NextOf p n) {g f : Int} (hg : 1 ≤ g) (hf : 0 ≤ f ∧ f < 3600 ∧ p f = true) : ∀ {k : Nat} {a : Int}, f ≤ a → (a < 3600 → p a = true) →
    (∀ z, z ∈ rowL n g f k a → a ≤ z ∧ z < 3600 ∧ p z = true ∧ (z = f ∨ z ≤ f + 3600 - g)) ∧ (rowL n g f k a).Pairwise fun u v => u + g ≤ v := by
  intro k
  induction k with
  | zero => intro a _ _; exact ⟨fun z hz => (by cases hz), List.Pairwise.nil⟩
  | succ k ih =>
    intro a h1 h2
    by_cases hc : a = f ∨ (a ≤ f + 3600 - g ∧ a < 3600)
    · simp only [rowL, if_pos hc]
      have ha : a < 3600 := by omega
      have hnx : a + g ≤ fromV n (a + g) ∧ (fromV n (a + g) < 3600 → p (fromV n (a + g)) = true) ∨ fromV n (a + g) = 7200 := by
        rcases hn (a + g) (by omega) with ⟨r1, _⟩ | ⟨r1, r2, r3, _⟩
        · exact .inr r1
        · exact .inl ⟨r1, fun _ => r3⟩
      rcases hnx with ⟨r1, r2⟩ | r1
      · obtain ⟨i1, i2⟩ := ih (a := fromV n (a + g)) (by omega) r2
        refine ⟨fun z hz => ?_, List.pairwise_cons.2 ⟨fun v hv => ?_, i2⟩⟩
        · rcases List.mem_cons.1 hz with rfl | hz
          · exact ⟨Int.le_refl _, ha, h2 ha, by omega⟩
          · have := i1 z hz
            exact ⟨by omega, this.2.1, this.2.2.1, this.2.2.2⟩
        · have := i1 v hv
          omega
      · rw [rowL_stop (n := n) (by omega)]
        refine ⟨fun z hz => ?_, List.pairwise_singleton _ _⟩
        rw [List.mem_singleton.1 hz]
        exact ⟨Int.le_refl _, ha, h2 ha, by omega⟩
    · rw [rowL_stop hc]
      exact ⟨fun z hz => (by cases hz), List.Pairwise.nil⟩
theorem row_max {p : Int → Bool} {n : Nat → Int} (hn : NextOf p n) {g f : Int} (hg : 1 ≤ g) (hf : 0 ≤ f ∧ f < 3600) : ∀ {k : Nat} {a : Int} {i : Nat}, 1 ≤ i → f + i * g ≤ a → ((rowL n g f k a).length : Int) ≤ max 0 (3600 / g - i) := by
  intro k
  induction k with
  | zero => intro a i _ _; simp only [rowL, List.length_nil]; omega
  | succ k ih =>
    intro a i hi h
    have hig : g ≤ i * g := by
      have := Int.mul_le_mul_of_nonneg_right (show (1 : Int) ≤ (i : Int) by omega) (show 0 ≤ g by omega)
      omega
    by_cases hc : a = f ∨ (a ≤ f + 3600 - g ∧ a < 3600)
    · simp only [rowL, if_pos hc, List.length_cons]
      have e : ((i + 1 : Nat) : Int) * g = i * g + g := by push_cast; rw [Int.add_mul, Int.one_mul]
      have h1 : ((i + 1 : Nat) : Int) ≤ 3600 / g := (Int.le_ediv_iff_mul_le (by omega)).2 (by omega)
      have h2 : f + ((i + 1 : Nat) : Int) * g ≤ fromV n (a + g) ∨ fromV n (a + g) = 7200 := by
        rcases hn (a + g) (by omega) with ⟨r1, _⟩ | ⟨r1, _⟩
        · exact .inr r1
        · exact .inl (by omega)
      rcases h2 with h2 | h2
      · have := ih (a := fromV n (a + g)) (i := i + 1) (by omega) h2
        omega
      · rw [rowL_stop (n := n) (by omega)]
        simp only [List.length_nil]
        omega
    · rw [rowL_stop hc]
      simp only [List.length_nil]
      omega
theorem rowV_cons {n : Nat → Int} {g f : Int} : rowV n g f = f :: rowL n g f 3600 (fromV n (f + g)) := by
  unfold rowV
  exact rowL_cons (k := 3601) (by omega) (.inl rfl)
theorem most_max {p : Int → Bool} {n : Nat → Int} (hn : NextOf p n) {g : Int} (hg : 1 ≤ g) : mostV n g ≤ max 1 (3600 / g) := by
  refine most_le (by omega) fun f hf => ?_
  obtain ⟨h1, h2, _⟩ := (firstsV_mem hn).1 hf
  rw [rowV_cons, List.length_cons]
  have h3 : f + ((1 : Nat) : Int) * g ≤ fromV n (f + g) ∨ fromV n (f + g) = 7200 := by
    rcases hn (f + g) (by omega) with ⟨r1, _⟩ | ⟨r1, _⟩
    · exact .inr r1
    · exact .inl (by omega)
  rcases h3 with h3 | h3
  · have := row_max hn hg ⟨h1, h2⟩ (k := 3600) (Nat.le_refl 1) h3
    omega
  · rw [rowL_stop (n := n) (by omega)]
    simp only [List.length_nil]
    omega
theorem div_bd {g : Int} (hg : 1 ≤ g) : 0 ≤ 3600 / g ∧ 3600 / g ≤ 3600 :=
  ⟨Int.ediv_nonneg (show (0 : Int) ≤ 3600 by decide) (by omega), Int.ediv_le_self g (show (0 : Int) ≤ 3600 by decide)⟩
theorem row_min {n : Nat → Int} (hn : NextOf (fun _ => true) n) {g : Int} (hg : 1 ≤ g) : ∀ {k : Nat} {i : Nat}, 1 ≤ i → 3600 / g - i ≤ k → 3600 / g - i ≤ ((rowL n g 0 k (fromV n (i * g))).length : Int) := by
  intro k
  induction k with
  | zero => intro i _ h; simp only [rowL, List.length_nil]; omega
  | succ k ih =>
    intro i hi h
    by_cases hc : (i : Int) < 3600 / g
    · have e : ((i + 1 : Nat) : Int) * g = i * g + g := by push_cast; rw [Int.add_mul, Int.one_mul]
      have h1 : ((i + 1 : Nat) : Int) * g ≤ 3600 := (Int.le_ediv_iff_mul_le (by omega)).1 (by omega)
      have hig : 0 ≤ (i : Int) * g := Int.mul_nonneg (by omega) (by omega)
      have hf : fromV n (i * g) = i * g := by
        rcases hn (i * g) hig with ⟨_, r2⟩ | ⟨r1, r2, _, r4⟩
        · have := r2 (i * g) (Int.le_refl _) (by omega); cases this
        · rcases Int.lt_or_le (i * g) (fromV n (i * g)) with hlt | hle
          · have := r4 (i * g) (Int.le_refl _) hlt; cases this
          · omega
      rw [hf]
      simp only [rowL, if_pos (show (i : Int) * g = 0 ∨ ((i : Int) * g ≤ 0 + 3600 - g ∧ (i : Int) * g < 3600) by omega), List.length_cons]
      have := ih (i := i + 1) (by omega) (by omega)
      rw [e] at this
      omega
    · omega
theorem most_all {n : Nat → Int} (hn : NextOf (fun _ => true) n) {g : Int} (hg : 1 ≤ g) : mostV n g = max 1 (3600 / g) := by
  have h1 := most_max hn hg
  have h2 : ((rowV n g 0).length : Int) ≤ mostV n g := most_ge ((firstsV_mem hn).2 ⟨Int.le_refl 0, by decide, rfl⟩)
  have hd := div_bd hg
  have h3 := row_min hn hg (k := 3600) (i := 1) (Nat.le_refl 1) (by omega)
  have h4 : ((rowV n g 0).length : Int) = ((rowL n g 0 3600 (fromV n (((1 : Nat) : Int) * g))).length : Int) + 1 := by
    rw [rowV_cons, List.length_cons, show ((1 : Nat) : Int) * g = 0 + g by omega]
    rfl
  omega
theorem most_none {p : Int → Bool} {n : Nat → Int} (hn : NextOf p n) (hp : ∀ k, 0 ≤ k → k < 3600 → p k = false) {g : Int} : mostV n g = 0 := by
  rcases most_at (n := n) (g := g) with h | ⟨f, hf, _⟩
  · exact h
  · obtain ⟨h1, h2, h3⟩ := (firstsV_mem hn).1 hf
    rw [hp f h1 h2] at h3
    cases h3
-- so many angles
theorem angO_some {n : Nat → Int} {g m : Int} (hm : 1 ≤ m) : (anglesO n g m).isSome = true ↔ m ≤ mostV n g := by
  unfold anglesO
  rw [if_neg (by omega), List.findSome?_isSome_iff]
  constructor
  · rintro ⟨f, hf, h⟩
    have := most_ge (g := g) hf
    unfold angF at h
    split at h
    · omega
    · cases h
  · intro h
    rcases most_at (n := n) (g := g) with h1 | ⟨f, hf, h1⟩
    · omega
    · refine ⟨f, hf, ?_⟩
      unfold angF
      rw [if_pos (by omega)]
      rfl
structure AngOk (p : Int → Bool) (g : Int) (m : Int) (l : List Int) : Prop where
  len : ((l.length : Nat) : Int) = m
  ok : ∀ z, z ∈ l → 0 ≤ z ∧ z < 3600 ∧ p z = true
  far : l.Pairwise fun u v => u + g ≤ v ∧ v - u ≤ 3600 - g
theorem angO_ok {p : Int → Bool} {n : Nat → Int} (hn : NextOf p n) {g m : Int} (hg : 1 ≤ g) (hm : 0 ≤ m) {l : List Int} (h : anglesO n g m = some l) : AngOk p g m l := by
  unfold anglesO at h
  split at h
  · rename_i h0
    cases h
    exact ⟨by simp [h0], fun z hz => (by cases hz), List.Pairwise.nil⟩
  · obtain ⟨f, hf, h⟩ := List.exists_of_findSome?_eq_some h
    unfold angF at h
    split at h
    · rename_i hl
      cases h
      have hff := (firstsV_mem hn).1 hf
      obtain ⟨h1, h2⟩ := row_all hn hg hff (k := 3601) (a := f) (Int.le_refl f) fun _ => hff.2.2
      have hmem : ∀ z, z ∈ (rowV n g f).take m.toNat → z ∈ rowV n g f := fun z hz => List.mem_of_mem_take hz
      refine ⟨by rw [List.length_take]; omega, fun z hz => ?_, ?_⟩
      · have := h1 z (hmem z hz)
        exact ⟨by omega, this.2.1, this.2.2.1⟩
      · have hp : ((rowV n g f).take m.toNat).Pairwise fun u v => u + g ≤ v := List.Pairwise.sublist (List.take_sublist _ _) h2
        refine List.Pairwise.imp_of_mem ?_ hp
        intro u v hu hv huv
        have q1 := h1 u (hmem u hu)
        have q2 := h1 v (hmem v hv)
        omega
    · cases h
theorem pair_ix {α : Type} [Inhabited α] {R : α → α → Prop} {l : List α} (h : l.Pairwise R) {i k : Nat} (hk : k < i) (hi : i < l.length) : R (ix l k) (ix l i) := by
  have := List.pairwise_iff_getElem.1 h k i (by omega) hi hk
  unfold ix
  rw [List.getD_eq_getElem?_getD, List.getD_eq_getElem?_getD, List.getElem?_eq_getElem (show k < l.length by omega), List.getElem?_eq_getElem hi]
  exact this
theorem ix_mapP {α β : Type} [Inhabited α] [Inhabited β] {f : α → β} {l : List α} {i : Nat} (h : i < l.length) : ix (l.map f) i = f (ix l i) := by
  unfold ix
  rw [List.getD_eq_getElem?_getD, List.getD_eq_getElem?_getD, List.getElem?_map, List.getElem?_eq_getElem h]
  rfl
structure SpotsOk (x : TrkV) (e m : Int) (l : List Spt) : Prop where
  len : ((l.length : Nat) : Int) = m
  ok : ∀ i, i < l.length → (ix l i).height = e ∧ 0 ≤ (ix l i).angle ∧ (ix l i).angle < 3600 ∧ roomB x e (ix l i).angle = true
  far : ∀ k i, k < i → i < l.length → (ix l k).angle + gapV x ≤ (ix l i).angle ∧ (ix l i).angle - (ix l k).angle ≤ 3600 - gapV x
theorem spotsL_ok {x : TrkV} (hx : TrkOk x) {e m : Int} (hm : 0 ≤ m) (h : (anglesO (nextV x e) (gapV x) m).isSome = true) : SpotsOk x e m (spotsL x e m) := by
  obtain ⟨l, hl⟩ := Option.isSome_iff_exists.1 h
  have ha := angO_ok (next_of x e) (gap_bd hx).1 hm hl
  have e1 : spotsL x e m = l.map fun a => ⟨a, e⟩ := by unfold spotsL; rw [hl]; rfl
  rw [e1]
  have hlen : (l.map fun a => (⟨a, e⟩ : Spt)).length = l.length := List.length_map _
  refine ⟨by rw [hlen]; exact ha.len, fun i hi => ?_, fun k i hk hi => ?_⟩
  · rw [hlen] at hi
    rw [ix_mapP hi]
    exact ⟨rfl, ha.ok _ (ix_mem hi)⟩
  · rw [hlen] at hi
    rw [ix_mapP hi, ix_mapP (by omega)]
    exact pair_ix ha.far hk hi
theorem gap_mul {x : TrkV} (hx : TrkOk x) {z : Int} (h : gapV x ≤ z) : 3600 * x.r.apart ≤ z * x.worst.girth := by
  have hg := hx.worst.girth
  unfold gapV at h
  generalize x.worst.girth = g at hg h ⊢
  generalize 3600 * x.r.apart = n at h ⊢
  have h1 : (n + g - 1) / g < z + 1 := by omega
  rw [Int.ediv_lt_iff_lt_mul (by omega), Int.add_mul, Int.one_mul] at h1
  omega
theorem mostR_s {t : TreeV} {r : RuleV} {y e : Int} (h : startE t r y = 0) (he : 0 ≤ e ∧ e ≤ 5000) : mostR t r y e = mostV (nextV (openV t r y) e) (gapV (openV t r y)) := by unfold mostR; rw [if_pos (atE_s h he)]
theorem most_bd {x : TrkV} (hx : TrkOk x) (e : Int) : 0 ≤ mostV (nextV x e) (gapV x) ∧ mostV (nextV x e) (gapV x) ≤ 3600 := by
  have h1 := (gap_bd hx).1
  have h2 := most_max (next_of x e) h1
  have h3 := div_bd h1
  exact ⟨most_nn, by omega⟩
theorem ang_yes {x : TrkV} {e m : Int} (hm : 0 ≤ m) (h : m ≤ mostV (nextV x e) (gapV x)) : (anglesO (nextV x e) (gapV x) m).isSome = true := by
  by_cases h0 : m = 0
  · unfold anglesO
    rw [if_pos h0]
    rfl
  · exact (angO_some (by omega)).2 h
theorem spots_ok {t : TreeV} {r : RuleV} {y e m : Int} (h : startE t r y = 0) (he : 0 ≤ e ∧ e ≤ 5000) (hm : 0 ≤ m ∧ m ≤ 20) (hs : (anglesO (nextV (openV t r y) e) (gapV (openV t r y)) m).isSome = true) : spotsE t r y e m = 0 ∧ spotsR t r y e m = spotsL (openV t r y) e m := by
  have h1 : spotsE t r y e m = 0 := by
    have := atE_s h he
    unfold spotsE
    rw [if_neg (by omega), if_pos (within1.2 hm), if_pos hs]
  exact ⟨h1, by unfold spotsR; rw [if_pos h1]⟩
theorem spots_no {t : TreeV} {r : RuleV} {y e m : Int} (h : startE t r y = 0) (he : 0 ≤ e ∧ e ≤ 5000) (hm : 0 ≤ m ∧ m ≤ 20) (hs : ¬ (anglesO (nextV (openV t r y) e) (gapV (openV t r y)) m).isSome = true) : spotsE t r y e m = 7 ∧ spotsR t r y e m = [] := by
  have h1 : spotsE t r y e m = 7 := by
    have := atE_s h he
    unfold spotsE
    rw [if_neg (by omega), if_pos (within1.2 hm), if_neg hs]
  exact ⟨h1, by unfold spotsR; rw [if_neg (by omega)]⟩
theorem one_free {r : Rg} (h : 0 ≤ r.low ∧ r.low ≤ r.high ∧ r.high ≤ 3599) : FreeOk [r] 1 := ⟨by simp, fun q hq => by rw [List.mem_singleton.1 hq]; exact h, List.pairwise_singleton _ _⟩
theorem one_in {s : List Rg} {a : Int} (h : inS s a = true) : ∀ z, inS [(⟨a, a⟩ : Rg)] z = true → inS s z = true := fun z hz => by
  obtain ⟨q, hq, h1⟩ := inS_iff.1 hz
  rw [List.mem_singleton.1 hq] at h1
  simp only at h1
  rw [show z = a by omega]
  exact h
theorem room_in {x : TrkV} {e a : Int} (h : roomB x e a = true) : (x.r.blo ≤ e ∧ e ≤ x.r.bhi) ∧ inS (freeV x e) a = true := by
  unfold roomB at h
  rw [Bool.and_eq_true, within1] at h
  exact h
-- further apart; nothing drilled
def farR (r : RuleV) (b : Int) : RuleV := { r with apart := min 5000 (r.apart + b) }
def bareT (t : TreeV) : TreeV := { t with holes := [] }
theorem far_start {t : TreeV} {r : RuleV} {y b : Int} (h : startE t r y = 0) (hb : 0 ≤ b) : startE t (farR r b) y = 0 := by
  obtain ⟨k1, k2, k3⟩ := startE_0.1 h
  have q := k2.apart
  exact startE_0.2 ⟨k1, ⟨k2.side, k2.up, k2.heal, by simp only [farR]; omega, k2.between, k2.len, k2.n0, k2.n1, k2.n2, k2.n3, k2.n4, k2.opn, k2.sizes⟩, k3⟩
theorem bare_start {t : TreeV} {r : RuleV} {y : Int} (h : startE t r y = 0) : startE (bareT t) r y = 0 := by
  obtain ⟨k1, k2, k3⟩ := startE_0.1 h
  exact startE_0.2 ⟨⟨k1.year, k1.girth, k1.grow, k1.health, Nat.zero_le _, fun q hq => (by cases hq)⟩, k2, k3⟩
theorem far_less {t : TreeV} {r : RuleV} {y e b : Int} (h : startE t r y = 0) (hb : 0 ≤ b) : mostV (nextV (openV t (farR r b) y) e) (gapV (openV t (farR r b) y)) ≤ mostV (nextV (openV t r y) e) (gapV (openV t r y)) := by
  have hx := open_ok h
  have hx' := open_ok (far_start h hb)
  have h1 := (gap_bd hx).1
  refine most_less (next_of _ e) (next_of _ e) (fun k _ _ hk => hk) ⟨h1, ?_⟩
  have hg := hx.worst.girth
  have ha := hx.r.apart
  have e1 : gapV (openV t (farR r b) y) = (3600 * min 5000 (r.apart + b) + (openV t r y).worst.girth - 1) / (openV t r y).worst.girth := rfl
  rw [e1]
  unfold gapV
  have ha2 : 1 ≤ r.apart ∧ r.apart ≤ 5000 := ha
  refine Int.ediv_le_ediv (by omega) ?_
  show 3600 * r.apart + (openV t r y).worst.girth - 1 ≤ _
  omega
theorem bare_most {t : TreeV} {r : RuleV} {y e : Int} (h : startE t r y = 0) (he : 0 ≤ e ∧ e ≤ 5000) : (r.blo ≤ e ∧ e ≤ r.bhi → mostV (nextV (openV (bareT t) r y) e) (gapV (openV (bareT t) r y)) = max 1 (3600 / gapV (openV t r y))) ∧ (¬ (r.blo ≤ e ∧ e ≤ r.bhi) → mostV (nextV (openV (bareT t) r y) e) (gapV (openV (bareT t) r y)) = 0) := by
  have hx := open_ok (bare_start h)
  have h1 := (gap_bd hx).1
  constructor
  · intro hb
    have hall : ∀ k : Int, 0 ≤ k → k < 3600 → roomB (openV (bareT t) r y) e k = true := fun k h0 h3 => by
      unfold roomB
      rw [Bool.and_eq_true, within1]
      exact ⟨hb, (free_iff hx ⟨h0, by omega⟩).2 fun q hq => (by cases hq)⟩
    have hn : NextOf (fun _ => true) (nextV (openV (bareT t) r y) e) := fun a ha => by
      rcases next_of (openV (bareT t) r y) e a ha with ⟨r1, r2⟩ | ⟨r1, r2, r3, r4⟩
      · refine .inl ⟨r1, fun k q1 q2 => ?_⟩
        have := r2 k q1 q2
        rw [hall k (by omega) q2] at this
        cases this
      · refine .inr ⟨r1, r2, rfl, fun k q1 q2 => ?_⟩
        have := r4 k q1 q2
        rw [hall k (by omega) (by omega)] at this
        cases this
    exact most_all hn h1
  · intro hb
    refine most_none (next_of _ e) (fun k _ _ => ?_)
    unfold roomB
    have : within (openV (bareT t) r y).r.blo (openV (bareT t) r y).r.bhi [e] = false := Bool.eq_false_iff.2 fun h => hb (within1.1 h)
    rw [this, Bool.false_and]
theorem bare_more {t : TreeV} {r : RuleV} {y e : Int} (h : startE t r y = 0) (he : 0 ≤ e ∧ e ≤ 5000) : mostV (nextV (openV t r y) e) (gapV (openV t r y)) ≤ mostV (nextV (openV (bareT t) r y) e) (gapV (openV (bareT t) r y)) := by
  have hx := open_ok h
  have hb := bare_most h he
  by_cases hc : r.blo ≤ e ∧ e ≤ r.bhi
  · rw [hb.1 hc]
    exact most_max (next_of _ e) (gap_bd hx).1
  · rw [hb.2 hc, most_none (next_of _ e) (fun k _ _ => ?_)]
    · exact Int.le_refl 0
    · unfold roomB
      have : within (openV t r y).r.blo (openV t r y).r.bhi [e] = false := Bool.eq_false_iff.2 fun h => hc (within1.1 h)
      rw [this, Bool.false_and]
end Go.Proofs.Ytbpblhmigijkaaa
