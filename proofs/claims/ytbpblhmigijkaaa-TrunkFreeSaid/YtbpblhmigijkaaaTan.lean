/- The reference: angles one by one; rows of numbers. Plain laws. -/
import Derived.Test.YtbpblhmigijkaaaTfl
import Derived.Test.YtbpblhmigijkaaaTrm
namespace Go.Proofs.Ytbpblhmigijkaaa
open Go.RowKit
set_option linter.unusedVariables false
-- a row of 3601 numbers
def nextsC (n : Nat → Int) : List LV := cellsI n 3601 0 []
theorem nexts_at {n : Nat → Int} {k : Nat} (h : k < 3601) : (nextsC n)[k]? = some (.i (n k)) := by
  have := cellsI_at (n := n) (tl := []) (i := 0) h
  rw [Nat.zero_add] at this
  exact this
theorem nexts_len {n : Nat → Int} {k : Nat} (h : k < 3601) : k < (nextsC n).length := by
  unfold nextsC
  rw [cellsI_len]
  simpa using h
theorem nexts_set {n : Nat → Int} {v : Int} {k : Nat} (h : k < 3601) : nextsC (setF n k v) = (nextsC n).set k (.i v) := by
  have := cellsI_set (n := n) (tl := []) (v := v) (i := 0) h
  rw [Nat.zero_add] at this
  exact this.symm
theorem nextsC_le {n n2 : Nat → Int} {ρ : List (Nat × Nat)} (h : n = n2) : nextsC n = (nextsC n2).map (LV.ren ρ) := by
  subst h
  exact (cellsI_ren (n := n) (tl := []) (k := 3601) (i := 0) (ρ := ρ)).symm
/-- Is an angle free? -/
def angV (x : TrkV) (e : Int) (a : Nat) : Bool := inS (freeV x e) ((a : Nat) : Int)
def okH (x : TrkV) (e : Int) (a : Nat) (h : Hol) : Bool := !(forbidsV x.year h ⟨((a : Nat) : Int), e⟩ x.worst)
theorem ang_all {x : TrkV} (hx : TrkOk x) {e : Int} {a : Nat} (ha : a < 3600) : angV x e a = x.t.holes.all (okH x e a) := by
  unfold angV
  rw [Bool.eq_iff_iff, free_iff hx (show 0 ≤ ((a : Nat) : Int) ∧ ((a : Nat) : Int) ≤ 3599 by omega), List.all_eq_true]
  constructor
  · intro h q hq
    unfold okH
    rw [h q hq]
    rfl
  · intro h q hq
    have := h q hq
    unfold okH at this
    simpa using this
theorem all_take {α : Type} [Inhabited α] {p : α → Bool} {l : List α} {i : Nat} (h : i < l.length) : (l.take (i + 1)).all p = ((l.take i).all p && p (ix l i)) := by
  rw [take_ix h, List.all_append]
  simp
theorem all_stop {α : Type} {p : α → Bool} {l : List α} {i : Nat} (h : (l.take i).all p = false) : l.all p = false := by
  rw [List.all_eq_false] at h ⊢
  obtain ⟨x, hx, h⟩ := h
  exact ⟨x, List.mem_of_mem_take hx, h⟩
theorem ang_end {x : TrkV} (hx : TrkOk x) {e : Int} {a i : Nat} {b : Bool} (ha : a < 3600) (hi : i ≤ x.t.holes.length) (hb : b = (x.t.holes.take i).all (okH x e a)) (h : x.t.holes.length ≤ i ∨ b = false) : b = angV x e a := by
  rw [ang_all hx ha]
  rcases h with h | h
  · rw [hb, List.take_of_length_le h]
  · rw [h] at hb ⊢
    exact (all_stop hb.symm).symm
theorem setB_at {f : Nat → Bool} {k : Nat} {v : Bool} : setB f k v k = v := if_pos rfl
theorem setB_ne {f : Nat → Bool} {k j : Nat} {v : Bool} (h : j ≠ k) : setB f k v j = f j := if_neg h
theorem flags_all {f g : Nat → Bool} {ρ : List (Nat × Nat)} (h : ∀ k, k < 3600 → f k = g k) : flagsC f = (flagsC g).map (LV.ren ρ) := by
  rw [← flagsC_le (ρ := ρ) (f := g) rfl]
  unfold flagsC
  have key : ∀ (k i : Nat), i + k ≤ 3600 → cellsB f k i = cellsB g k i := by
    intro k
    induction k with
    | zero => intro i _; rfl
    | succ k ih => intro i hi; simp only [cellsB, ih (i + 1) (by omega), h i (by omega)]
  exact key 3600 0 (by omega)
-- ranges cut off
def cutR : List Rg → Int → List Rg
  | [], _ => []
  | r :: s, a => if r.low < a then ⟨r.low, min r.high (a - 1)⟩ :: cutR s a else []
theorem cut_none {s : List Rg} {a : Int} (h : ∀ r, r ∈ s → a ≤ r.low) : cutR s a = [] := by
  cases s with
  | nil => rfl
  | cons r s =>
    unfold cutR
    rw [if_neg]
    have := h r List.mem_cons_self
    omega
theorem cut_all : ∀ {s : List Rg} {a : Int}, (∀ r, r ∈ s → r.low < a ∧ r.high < a) → cutR s a = s := by
  intro s
  induction s with
  | nil => intro a _; rfl
  | cons r s ih =>
    intro a h
    have h1 := h r List.mem_cons_self
    unfold cutR
    rw [if_pos h1.1, ih fun q hq => h q (List.mem_cons_of_mem _ hq), show min r.high (a - 1) = r.high by omega]
theorem inS_cons {r : Rg} {s : List Rg} {a : Int} : inS (r :: s) a = true ↔ (r.low ≤ a ∧ a ≤ r.high) ∨ inS s a = true := by
  unfold inS
  rw [List.any_cons, Bool.or_eq_true, Bool.and_eq_true, decide_eq_true_eq, decide_eq_true_eq]
structure Sep (s : List Rg) : Prop where
  ok : ∀ r, r ∈ s → r.low ≤ r.high
  far : s.Pairwise fun p q => p.high + 1 < q.low
theorem Sep.tail {r : Rg} {s : List Rg} (h : Sep (r :: s)) : Sep s := ⟨fun q hq => h.ok q (List.mem_cons_of_mem _ hq), (List.pairwise_cons.1 h.far).2⟩
theorem Sep.head {r : Rg} {s : List Rg} (h : Sep (r :: s)) : r.low ≤ r.high ∧ ∀ q, q ∈ s → r.high + 1 < q.low := ⟨h.ok r List.mem_cons_self, (List.pairwise_cons.1 h.far).1⟩
theorem inS_none {s : List Rg} {a : Int} (h : ∀ r, r ∈ s → a < r.low) : inS s a = false := by
  rw [Bool.eq_false_iff]
  intro hi
  obtain ⟨r, hr, h1⟩ := inS_iff.1 hi
  have := h r hr
  omega
/-- An angle that is not free. -/
theorem cut_no : ∀ {s : List Rg} {a : Int}, Sep s → inS s a = false → cutR s (a + 1) = cutR s a := by
  intro s
  induction s with
  | nil => intro a _ _; rfl
  | cons r s ih =>
    intro a h hi
    have hn : ¬ ((r.low ≤ a ∧ a ≤ r.high) ∨ inS s a = true) := fun h => by rw [inS_cons.2 h] at hi; cases hi
    have h1 := h.head
    unfold cutR
    by_cases h2 : r.low < a
    · rw [if_pos h2, if_pos (by omega), ih h.tail (Bool.eq_false_iff.2 fun h => hn (.inr h)), show min r.high (a + 1 - 1) = min r.high (a - 1) by omega]
    · rw [if_neg h2, if_neg (by omega)]
/-- An angle behind a free one. -/
theorem cut_on : ∀ {s : List Rg} {a : Int}, Sep s → inS s a = true → inS s (a - 1) = true → 0 < (cutR s a).length ∧ cutR s (a + 1) = (cutR s a).set ((cutR s a).length - 1) ⟨(ix (cutR s a) ((cutR s a).length - 1)).low, a⟩ := by
  intro s
  induction s with
  | nil => intro a _ h; cases h
  | cons r s ih =>
    intro a h hi hp
    have h1 := h.head
    rw [inS_cons] at hi hp
    by_cases hc : r.low ≤ a ∧ a ≤ r.high
    · have hlow : r.low < a := by
        rcases hp with hp | hp
        · omega
        · rw [inS_none (s := s) (a := a - 1) fun q hq => by have := h1.2 q hq; omega] at hp
          cases hp
      have e1 : cutR s a = [] := cut_none fun q hq => by have := h1.2 q hq; omega
      have e2 : cutR s (a + 1) = [] := cut_none fun q hq => by have := h1.2 q hq; omega
      unfold cutR
      rw [if_pos hlow, if_pos (by omega), e1, e2]
      refine ⟨by simp, ?_⟩
      show _ = [_]
      rw [show min r.high (a + 1 - 1) = a by omega]
      rfl
    · have hi2 : inS s a = true := hi.resolve_left hc
      have hlow : r.low < a := by
        obtain ⟨q, hq, h3⟩ := inS_iff.1 hi2
        have := h1.2 q hq
        omega
      have hp2 : inS s (a - 1) = true := by
        rcases hp with hp | hp
        · obtain ⟨q, hq, h3⟩ := inS_iff.1 hi2
          have := h1.2 q hq
          omega
        · exact hp
      obtain ⟨g1, g2⟩ := ih h.tail hi2 hp2
      have hhi : r.high < a - 1 := by
        obtain ⟨q, hq, h3⟩ := inS_iff.1 hp2
        have := h1.2 q hq
        omega
      unfold cutR
      rw [if_pos hlow, if_pos (by omega)]
      refine ⟨by simp, ?_⟩
      rw [g2, List.length_cons, Nat.add_sub_cancel]
      obtain ⟨k, hk⟩ : ∃ k, (cutR s a).length = k + 1 := ⟨(cutR s a).length - 1, by omega⟩
      rw [hk, Nat.add_sub_cancel, List.set_cons_succ]
      show _ :: _ = _ :: _
      rw [show min r.high (a + 1 - 1) = min r.high (a - 1) by omega]
      rfl
/-- A free angle behind none. -/
theorem cut_new : ∀ {s : List Rg} {a : Int}, Sep s → inS s a = true → inS s (a - 1) = false → cutR s (a + 1) = cutR s a ++ [⟨a, a⟩] := by
  intro s
  induction s with
  | nil => intro a _ h; cases h
  | cons r s ih =>
    intro a h hi hp
    have h1 := h.head
    have hn : ¬ ((r.low ≤ a - 1 ∧ a - 1 ≤ r.high) ∨ inS s (a - 1) = true) := fun h => by rw [inS_cons.2 h] at hp; cases hp
    rw [inS_cons] at hi
    by_cases hc : r.low ≤ a ∧ a ≤ r.high
    · have hlow : r.low = a := by omega
      have e2 : cutR s (a + 1) = [] := cut_none fun q hq => by have := h1.2 q hq; omega
      unfold cutR
      rw [if_pos (show r.low < a + 1 by omega), if_neg (show ¬ r.low < a by omega), e2, hlow, show min r.high (a + 1 - 1) = a by omega]
      rfl
    · have hi2 : inS s a = true := hi.resolve_left hc
      have hlow : r.low < a := by
        obtain ⟨q, hq, h3⟩ := inS_iff.1 hi2
        have := h1.2 q hq
        omega
      unfold cutR
      rw [if_pos hlow, if_pos (by omega), ih h.tail hi2 (Bool.eq_false_iff.2 fun h => hn (.inr h)), show min r.high (a + 1 - 1) = min r.high (a - 1) by omega]
      rfl
theorem free_sep {x : TrkV} (hx : TrkOk x) (e : Int) : Sep (freeV x e) := ⟨fun r hr => ((free_ok hx e).ok r hr).2.1, (free_ok hx e).sep⟩
theorem cut_len : ∀ {s : List Rg} {a : Int}, (cutR s a).length ≤ s.length := by
  intro s
  induction s with
  | nil => intro a; exact Nat.le_refl 0
  | cons r s ih =>
    intro a
    unfold cutR
    split
    · simp only [List.length_cons]; have := ih (a := a); omega
    · simp
/-- The reference's least turn. -/
def gap2V (x : TrkV) : Int := min (gapV x) 3600
theorem gap_lt {x : TrkV} (hx : TrkOk x) {n : Int} : n * x.worst.girth < 3600 * x.r.apart ↔ n < gapV x := by
  have hg := hx.worst.girth
  unfold gapV
  generalize x.worst.girth = g at hg ⊢
  generalize 3600 * x.r.apart = z
  have h := Int.le_ediv_iff_mul_le (a := n + 1) (b := z + g - 1) (c := g) (by omega)
  rw [Int.add_mul, Int.one_mul] at h
  omega
theorem ang_prev {x : TrkV} {e : Int} {a : Nat} (h : 0 < ((a : Nat) : Int)) : angV x e (((a : Nat) : Int) - 1).toNat = inS (freeV x e) (((a : Nat) : Int) - 1) := by
  unfold angV
  congr 1
  omega
theorem free_neg {x : TrkV} (hx : TrkOk x) {e : Int} {a : Nat} (h : ((a : Nat) : Int) ≤ 0) : inS (freeV x e) (((a : Nat) : Int) - 1) = false := by
  rw [Bool.eq_false_iff]
  intro hi
  have := inS_bd (free_ok hx e) hi
  omega
end Go.Proofs.Ytbpblhmigijkaaa
