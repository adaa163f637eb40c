/- Which angles are free: just those that no hole forbids. Plain laws. -/
import Derived.Test.YtbpblhmigijkaaaTv
namespace Go.Proofs.Ytbpblhmigijkaaa
open Go.RowKit
set_option linter.unusedVariables false
theorem inS_iff {s : List Rg} {a : Int} : inS s a = true ↔ ∃ r, r ∈ s ∧ r.low ≤ a ∧ a ≤ r.high := by
  unfold inS
  rw [List.any_eq_true]
  constructor
  · rintro ⟨r, h, h2⟩
    rw [Bool.and_eq_true, decide_eq_true_eq, decide_eq_true_eq] at h2
    exact ⟨r, h, h2⟩
  · rintro ⟨r, h, h2⟩
    refine ⟨r, h, ?_⟩
    rw [Bool.and_eq_true, decide_eq_true_eq, decide_eq_true_eq]
    exact h2
theorem inS_split {s : List Rg} {r : Rg} {a : Int} (hr : r.low ≤ r.high) : inS (splitL s r) a = true ↔ inS s a = true ∧ ¬ (r.low ≤ a ∧ a ≤ r.high) := by
  rw [inS_iff, inS_iff]
  constructor
  · rintro ⟨q, hq, h1⟩
    obtain ⟨x, hx, hq⟩ := List.mem_flatMap.1 hq
    rcases List.mem_append.1 hq with hq | hq
    · have := mem_lowP hq
      exact ⟨⟨x, hx, by omega, by omega⟩, by omega⟩
    · have := mem_highP hq
      exact ⟨⟨x, hx, by omega, by omega⟩, by omega⟩
  · rintro ⟨⟨x, hx, h1⟩, h2⟩
    by_cases h : a < r.low
    · refine ⟨⟨x.low, min x.high (r.low - 1)⟩, List.mem_flatMap.2 ⟨x, hx, List.mem_append_left _ ?_⟩, by simp only; omega⟩
      unfold lowP
      rw [if_pos (by omega)]
      exact List.mem_singleton_self _
    · refine ⟨⟨max x.low (r.high + 1), x.high⟩, List.mem_flatMap.2 ⟨x, hx, List.mem_append_right _ ?_⟩, by simp only; omega⟩
      unfold highP
      rw [if_pos (by omega)]
      exact List.mem_singleton_self _
theorem inS_off {s : List Rg} {n : Nat} {r : Rg} {a : Int} (hs : FreeOk s n) (h : 0 ≤ r.low ∧ r.low ≤ r.high ∧ r.high ≤ 3599) : inS (offR s r) a = true ↔ inS s a = true ∧ ¬ (r.low ≤ a ∧ a ≤ r.high) := by
  rw [off_split hs h]
  exact inS_split h.2.1
theorem inS_foldOff {a : Int} : ∀ {l : List Rg} {s : List Rg} {n : Nat}, FreeOk s n → (∀ r, r ∈ l → 0 ≤ r.low ∧ r.low ≤ r.high ∧ r.high ≤ 3599) → (inS (l.foldl offR s) a = true ↔ inS s a = true ∧ ¬ inS l a = true) := by
  intro l
  induction l with
  | nil => intro s n _ _; simp [inS]
  | cons r l ih =>
    intro s n h hl
    rw [List.foldl_cons, ih (off_ok h (hl r List.mem_cons_self)) fun q hq => hl q (List.mem_cons_of_mem _ hq), inS_off h (hl r List.mem_cons_self)]
    have : inS (r :: l) a = true ↔ (r.low ≤ a ∧ a ≤ r.high) ∨ inS l a = true := by
      unfold inS
      rw [List.any_cons, Bool.or_eq_true, Bool.and_eq_true, decide_eq_true_eq, decide_eq_true_eq]
    rw [this]
    constructor
    · rintro ⟨⟨h1, h2⟩, h3⟩; exact ⟨h1, fun h => h.elim h2 h3⟩
    · rintro ⟨h1, h2⟩; exact ⟨⟨h1, fun h => h2 (.inl h)⟩, fun h => h2 (.inr h)⟩
theorem inS_app {a : Int} {s t : List Rg} : inS (s ++ t) a = true ↔ inS s a = true ∨ inS t a = true := by
  unfold inS
  rw [List.any_append, Bool.or_eq_true]
theorem inS_arcR {lo hi b a : Int} (ha : 0 ≤ a ∧ a ≤ 3599) : inS (arcR lo hi b) a = true ↔ lo + b ≤ a ∧ a ≤ hi + b := by
  rw [inS_iff]
  unfold arcR
  constructor
  · rintro ⟨r, hr, h⟩
    split at hr
    · rw [List.mem_singleton.1 hr] at h
      simp only at h
      omega
    · cases hr
  · intro h
    rw [if_pos (by omega)]
    exact ⟨_, List.mem_singleton_self _, by simp only; omega⟩
theorem inS_arc {c m a : Int} (hc : 0 ≤ c ∧ c ≤ 3599) (ha : 0 ≤ a ∧ a ≤ 3599) (hm : 0 ≤ m) : inS (arcV c m) a = true ↔ turnV c a ≤ m := by
  unfold arcV turnV
  split
  · rw [inS_iff]
    constructor
    · intro _; omega
    · intro _; exact ⟨_, List.mem_singleton_self _, by simp only; omega⟩
  · rw [inS_app, inS_app, inS_arcR ha, inS_arcR ha, inS_arcR ha]
    omega
theorem near_le {u : Tru} (hu : TruOk u) (hs : u.side ≠ 0) {k : Int} (hk : 0 ≤ k) : k ≤ nearV u ↔ k * u.girth < 3600 * u.side := by
  have h1 := hu.girth
  have h2 := hu.side
  unfold nearV
  rw [Int.tdiv_eq_ediv_of_nonneg (by omega), Int.le_ediv_iff_mul_le (by omega)]
  omega
theorem near_pos {u : Tru} (hu : TruOk u) (hs : u.side ≠ 0) : 0 ≤ nearV u := by
  have h1 := hu.girth
  have h2 := hu.side
  rw [near_le hu hs (Int.le_refl 0), Int.zero_mul]
  omega
theorem forb_iff {y a e : Int} {h : Hol} {u : Tru} : forbidsV y h ⟨a, e⟩ u = true ↔ countsV y h u = true ∧ levelV u h e = true ∧ turnV h.angle a * u.girth < 3600 * u.side := by
  unfold forbidsV
  rw [Bool.and_eq_true, Bool.and_eq_true, decide_eq_true_eq]
theorem turn_nn {a b : Int} (ha : 0 ≤ a ∧ a ≤ 3599) (hb : 0 ≤ b ∧ b ≤ 3599) : 0 ≤ turnV a b := by unfold turnV; omega
theorem inS_freeS {x : TrkV} (hx : TrkOk x) {e a : Int} {s : List Rg} {n : Nat} {h : Hol} (hs : FreeOk s n) (hh : holeOk h) (ha : 0 ≤ a ∧ a ≤ 3599) : inS (freeS x e (nearV x.worst) s h) a = true ↔ inS s a = true ∧ ¬ forbidsV x.year h ⟨a, e⟩ x.worst = true := by
  rw [forb_iff]
  have hg := hx.worst.girth
  have ht := turn_nn hh.2.1 ha
  have hm := Int.mul_nonneg ht (show 0 ≤ x.worst.girth by omega)
  by_cases h1 : x.worst.side = 0
  · rw [free_no1 h1, h1]
    constructor
    · intro q; exact ⟨q, by omega⟩
    · exact fun q => q.1
  · cases h2 : countsV x.year h x.worst with
    | false =>
      rw [free_no (.inr (.inl h2))]
      simp
    | true =>
      cases h3 : levelV x.worst h e with
      | false =>
        rw [free_no (.inr (.inr h3))]
        simp
      | true =>
        rw [free_arc h1 h2 h3, inS_foldOff hs arcV_ok.1, inS_arc hh.2.1 ha (near_pos hx.worst h1), near_le hx.worst h1 ht]
        simp
theorem inS_foldS {x : TrkV} (hx : TrkOk x) {e a : Int} (ha : 0 ≤ a ∧ a ≤ 3599) : ∀ {l : List Hol} {s : List Rg} {n : Nat}, FreeOk s n → (∀ h, h ∈ l → holeOk h) → (inS (l.foldl (freeS x e (nearV x.worst)) s) a = true ↔ inS s a = true ∧ ∀ h, h ∈ l → ¬ forbidsV x.year h ⟨a, e⟩ x.worst = true) := by
  intro l
  induction l with
  | nil => intro s n _ _; simp
  | cons h l ih =>
    intro s n hs hl
    rw [List.foldl_cons, ih (freeS_ok hs) fun q hq => hl q (List.mem_cons_of_mem _ hq), inS_freeS hx hs (hl h List.mem_cons_self) ha]
    constructor
    · rintro ⟨⟨h1, h2⟩, h3⟩
      refine ⟨h1, fun q hq => ?_⟩
      rcases List.mem_cons.1 hq with rfl | hq
      · exact h2
      · exact h3 q hq
    · rintro ⟨h1, h2⟩
      exact ⟨⟨h1, h2 h List.mem_cons_self⟩, fun q hq => h2 q (List.mem_cons_of_mem _ hq)⟩
theorem free_iff {x : TrkV} (hx : TrkOk x) {e a : Int} (ha : 0 ≤ a ∧ a ≤ 3599) : inS (freeV x e) a = true ↔ ∀ h, h ∈ x.t.holes → forbidsV x.year h ⟨a, e⟩ x.worst = false := by
  unfold freeV
  rw [inS_foldS hx ha first_ok hx.t.hole]
  constructor
  · rintro ⟨_, h⟩ q hq
    exact Bool.eq_false_iff.2 (h q hq)
  · intro h
    refine ⟨?_, fun q hq => Bool.eq_false_iff.1 (h q hq)⟩
    rw [inS_iff]
    exact ⟨_, List.mem_singleton_self _, by simp only; omega⟩
theorem inS_bd {s : List Rg} {n : Nat} (hs : FreeOk s n) {a : Int} (h : inS s a = true) : 0 ≤ a ∧ a ≤ 3599 := by
  obtain ⟨r, hr, h1⟩ := inS_iff.1 h
  have := hs.ok r hr
  omega
theorem forb_best {t : TreeV} {r : RuleV} {y : Int} {s : Spt} {h : Hol} (h0 : startE t r y = 0) (hh : holeOk h) (ha : 0 ≤ s.angle ∧ s.angle ≤ 3599) (hf : forbidsV y h s (openV t r y).best = true) : forbidsV y h s (openV t r y).worst = true := by
  obtain ⟨k1, k2, k3⟩ := startE_0.1 h0
  have hg := girth_bd k1 k3
  have h3 := k2.side
  have h4 := k2.up
  have h5 := k2.heal
  obtain ⟨a, e⟩ := s
  rw [forb_iff] at hf ⊢
  obtain ⟨f1, f2, f3⟩ := hf
  have f1 := of_decide_eq_true f1
  have f2 := of_decide_eq_true f2
  have ht : 0 ≤ turnV h.angle a := turn_nn hh.2.1 ha
  simp only [openV] at f1 f2 f3 ⊢
  refine ⟨decide_eq_true (by simp only; omega), decide_eq_true (by simp only; omega), ?_⟩
  have := Int.mul_le_mul_of_nonneg_left hg.2.1 ht
  omega
theorem byL_mem {y : Int} {s : Spt} {u : Tru} {k : Int} : ∀ {l : List Hol} {i : Nat}, k ∈ byL y s u i l ↔ ∃ j, j < l.length ∧ k = ((i + j : Nat) : Int) ∧ forbidsV y (ix l j) s u = true := by
  intro l
  induction l with
  | nil => intro i; simp [byL]
  | cons h l ih =>
    intro i
    have key : k ∈ byL y s u i (h :: l) ↔ (k = ((i : Nat) : Int) ∧ forbidsV y h s u = true) ∨ k ∈ byL y s u (i + 1) l := by
      conv => lhs; unfold byL
      split
      · rename_i hf
        rw [List.mem_cons]
        simp [hf]
      · rename_i hf
        simp [hf]
    rw [key, ih]
    constructor
    · rintro (⟨h1, h2⟩ | ⟨j, h1, h2, h3⟩)
      · exact ⟨0, by simp, by simpa using h1, h2⟩
      · exact ⟨j + 1, by simpa using h1, by rw [h2]; congr 1; omega, h3⟩
    · rintro ⟨j, h1, h2, h3⟩
      match j, h1, h2, h3 with
      | 0, _, h2, h3 => exact .inl ⟨by simpa using h2, h3⟩
      | j + 1, h1, h2, h3 => exact .inr ⟨j, by simpa using h1, by rw [h2]; congr 1; omega, h3⟩
theorem byV_mem {x : TrkV} {s : Spt} {u : Tru} {k : Int} : k ∈ byV x s u ↔ ∃ j, j < x.t.holes.length ∧ k = ((j : Nat) : Int) ∧ forbidsV x.year (ix x.t.holes j) s u = true := by
  unfold byV
  rw [byL_mem]
  simp
theorem mem_ix {α : Type} [Inhabited α] {l : List α} {x : α} (h : x ∈ l) : ∃ j, j < l.length ∧ ix l j = x := by
  obtain ⟨k, hk, rfl⟩ := List.getElem_of_mem h
  refine ⟨k, hk, ?_⟩
  unfold ix
  rw [List.getD_eq_getElem?_getD, List.getElem?_eq_getElem hk]
  rfl
theorem byV_nil {x : TrkV} (hx : TrkOk x) {a e : Int} (ha : 0 ≤ a ∧ a ≤ 3599) : byV x ⟨a, e⟩ x.worst = [] ↔ inS (freeV x e) a = true := by
  rw [free_iff hx ha]
  constructor
  · intro h q hq
    obtain ⟨j, hj, rfl⟩ := mem_ix hq
    cases hf : forbidsV x.year (ix x.t.holes j) ⟨a, e⟩ x.worst with
    | false => rfl
    | true =>
      have : ((j : Nat) : Int) ∈ byV x ⟨a, e⟩ x.worst := byV_mem.2 ⟨j, hj, rfl, hf⟩
      rw [h] at this
      cases this
  · intro h
    rcases hb : byV x ⟨a, e⟩ x.worst with _ | ⟨k, l⟩
    · rfl
    · have : k ∈ byV x ⟨a, e⟩ x.worst := by rw [hb]; exact List.mem_cons_self
      obtain ⟨j, hj, _, hf⟩ := byV_mem.1 this
      rw [h _ (ix_mem hj)] at hf
      cases hf
theorem byL_mono {y : Int} {s : Spt} {u v : Tru} : ∀ {l : List Hol} {i : Nat}, (∀ h, h ∈ l → forbidsV y h s u = true → forbidsV y h s v = true) → (byL y s u i l).length ≤ (byL y s v i l).length := by
  intro l
  induction l with
  | nil => intro i _; exact Nat.le_refl _
  | cons h l ih =>
    intro i hf
    have h1 := ih (i := i + 1) fun q hq => hf q (List.mem_cons_of_mem _ hq)
    have h2 := hf h List.mem_cons_self
    unfold byL
    split
    · rename_i h3
      rw [if_pos (h2 h3)]
      simpa using h1
    · split
      · simp only [List.length_cons]; omega
      · exact h1
end Go.Proofs.Ytbpblhmigijkaaa
