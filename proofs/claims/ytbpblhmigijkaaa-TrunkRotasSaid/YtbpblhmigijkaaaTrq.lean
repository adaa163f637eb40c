/- The reference's rota: plain laws. -/
import Derived.Test.YtbpblhmigijkaaaTrt
namespace Go.Proofs.Ytbpblhmigijkaaa
open Go.RowKit
set_option linter.unusedVariables false
theorem any_ix_no {p : Int → Bool} {hs : List Int} {k : Nat} (h : ∀ j, j < k → p (ix hs j) = false) (hk : hs.length ≤ k) : hs.any p = false := by
 rw [List.any_eq_false]
 intro e he
 obtain ⟨j, hj, rfl⟩ := mem_ix he
 rw [h j (by omega)]
 exact Bool.false_ne_true
theorem any_ix_yes {p : Int → Bool} {hs : List Int} {i : Nat} (hi : i < hs.length) (h : p (ix hs i) = true) : hs.any p = true := List.any_eq_true.2 ⟨_, ix_mem hi, h⟩
theorem rotB_no1 {x : TrkV} {m e : Int} (h : (!(anglesO (nextV x e) (gapV x) m).isSome) = true) : rotB x m e = false := by
 unfold rotB
 rw [show (anglesO (nextV x e) (gapV x) m).isSome = false by simpa using h, Bool.false_and]
theorem rotB_no2 {x : TrkV} {m e : Int} (h : 0 ≤ (keepsV x (spotsL x e m)).at_) : rotB x m e = false := by
 unfold rotB
 rw [decide_eq_false (show ¬ (keepsV x (spotsL x e m)).at_ = -1 by omega), Bool.false_and, Bool.and_false]
theorem rotB_yes {x : TrkV} {m e : Int} (h : (!(anglesO (nextV x e) (gapV x) m).isSome) = false) (h2 : (keepsV x (spotsL x e m)).at_ < 0) : rotB x m e = true := by
 unfold rotB
 rw [show (anglesO (nextV x e) (gapV x) m).isSome = true by simpa using h]
 rcases keepsV_cases (x := x) (l := spotsL x e m) with h3 | ⟨h3, _⟩
 ·rw [h3]; rfl
 ·omega
structure Srch (x : TrkV) (m : Int) (hs : List Int) (pl : List (List Spt)) (k : Nat) (b : Bool) (pl2 : List (List Spt)) : Prop where
 no : b = false → pl2 = pl ∧ ∀ j, j < k → rotB x m (ix hs j) = false
 yes : b = true → pl2 = pl ++ [foundL x m hs] ∧ hs.any (rotB x m) = true
theorem srch_0 {x : TrkV} {m : Int} {hs : List Int} {pl : List (List Spt)} : Srch x m hs pl 0 false pl := ⟨fun _ => ⟨rfl, fun j h => by omega⟩, fun h => by cases h⟩
theorem srch_no {x : TrkV} {m : Int} {hs : List Int} {pl pl2 : List (List Spt)} {k : Nat} {b : Bool} (h : Srch x m hs pl k b pl2) (hb : (!b) = true) (hn : rotB x m (ix hs k) = false) : Srch x m hs pl (k + 1) b pl2 := by
 have hb : b = false := by simpa using hb
 obtain ⟨h1, h2⟩ := h.no hb
 exact ⟨fun _ => ⟨h1, fun j hj => (Nat.lt_or_ge j k).elim (h2 j) (fun h => by rw [show j = k by omega]; exact hn)⟩, fun h => by rw [hb] at h; cases h⟩
theorem srch_yes {x : TrkV} {m : Int} {hs : List Int} {pl pl2 : List (List Spt)} {k : Nat} {b : Bool} (h : Srch x m hs pl k b pl2) (hb : (!b) = true) (hk : k < hs.length) (hn : rotB x m (ix hs k) = true) : Srch x m hs pl (k + 1) true (pl2 ++ [spotsL x (ix hs k) m]) := by
 have hb : b = false := by simpa using hb
 obtain ⟨h1, h2⟩ := h.no hb
 refine ⟨fun h => (by cases h), fun _ => ⟨?_, any_ix_yes hk hn⟩⟩
 rw [h1, found_at h2 hk hn]
theorem srch_end {x : TrkV} {m : Int} {hs : List Int} {pl pl2 : List (List Spt)} {k : Nat} {b : Bool} (h : Srch x m hs pl k b pl2) (hk : hs.length ≤ k) (hb : (!b) = true) : hs.any (rotB x m) = false := any_ix_no (h.no (by simpa using hb)).2 hk
theorem srch_len {x : TrkV} {m : Int} {hs : List Int} {pl pl2 : List (List Spt)} {k : Nat} {b : Bool} (h : Srch x m hs pl k b pl2) : pl2.length ≤ pl.length + 1 := by
 cases hb : b with
 | false => rw [(h.no hb).1]; omega
 | true => rw [(h.yes hb).1]; simp
theorem ix_last {α : Type} [Inhabited α] {l : List α} {a : α} {i : Nat} (h : l.length = i) : ix (l ++ [a]) i = a := by
 subst h
 unfold ix
 simp
theorem spotsL_len2 {x : TrkV} {e m : Int} (hm : 0 ≤ m ∧ m ≤ 20) : (spotsL x e m).length ≤ 1000 := by
 unfold spotsL
 rw [List.length_map]
 exact angO_len (by omega)
theorem found_len {x : TrkV} {m : Int} {hs : List Int} (hm : 0 ≤ m ∧ m ≤ 20) : (foundL x m hs).length ≤ 1000 := by
 unfold foundL lastL
 split
 ·exact spotsL_len2 hm
 ·split
  ·simp
  ·exact spotsL_len2 hm
theorem rotL_len {r : RuleV} {m y : Int} {hs : List Int} (hm : 0 ≤ m ∧ m ≤ 20) : ∀ {k i : Nat} {t : TreeV} {pl : List (List Spt)}, (∀ q, q ∈ pl → q.length ≤ 1000) → (∀ q, q ∈ (rotL r m hs y k t i pl).1 → q.length ≤ 1000) ∧ (rotL r m hs y k t i pl).1.length ≤ pl.length + k := by
 intro k
 induction k with
 | zero => intro i t pl h; exact ⟨h, Nat.le_refl _⟩
 | succ k ih =>
  intro i t pl h
  unfold rotL
  split
  ·split
   ·obtain ⟨h1, h2⟩ := ih (i := i + 1) (t := drillV t (y + i) (foundL (openV t r (y + i)) m hs)) (pl := pl ++ [foundL (openV t r (y + i)) m hs]) (fun q hq => by
     rcases List.mem_append.1 hq with hq | hq
     ·exact h q hq
     ·rw [List.mem_singleton.1 hq]; exact found_len hm)
    refine ⟨h1, ?_⟩
    rw [List.length_append, List.length_singleton] at h2
    omega
   ·exact ⟨fun q hq => (by cases hq), by simp⟩
  ·exact ⟨fun q hq => (by cases hq), by simp⟩
theorem rotR_len {t : TreeV} {r : RuleV} {y m ys : Int} {hs : List Int} (h : rotE t r y m hs ys = 0) : (∀ q, q ∈ (rotR t r y m hs ys).1 → q.length ≤ 1000) ∧ (rotR t r y m hs ys).1.length ≤ 40 := by
 obtain ⟨_, _, _, h1, h2, _⟩ := rotE_0 h
 rw [rotR_0 h]
 have := rotL_len (r := r) (y := y) (hs := hs) h1 (k := ys.toNat) (i := 0) (t := t) (pl := []) fun q hq => (by cases hq)
 refine ⟨this.1, ?_⟩
 have h3 := this.2
 simp only [List.length_nil] at h3
 omega
def rw1 (t : TreeV) (r : RuleV) (y ys : Int) (hs : List Int) : Int := if startE t r y ≠ 0 then startE t r y else if (decide ((20 : Int) < (hs.length : Int)) || decide (40 < ys)) = true then 5 else 0
def rw2 (t : TreeV) (r : RuleV) (y ys : Int) (hs : List Int) (k : Nat) : Int := if rw1 t r y ys hs ≠ 0 then rw1 t r y ys hs else if within 0 5000 (hs.take k) = true then 0 else 3
section
variable {t : TreeV} {r : RuleV} {y m ys : Int} {hs : List Int} {k : Nat}
theorem rw1_a (h : startE t r y ≠ 0) : startE t r y = rw1 t r y ys hs := (if_pos h).symm
theorem rw1_b (h : startE t r y = 0) (h2 : 20 < (hs.length : Int) ∨ 40 < ys) : 5 = rw1 t r y ys hs := by
 unfold rw1
 rw [if_neg (by omega), if_pos]
 rcases h2 with h2 | h2
 ·rw [decide_eq_true h2, Bool.true_or]
 ·rw [decide_eq_true h2, Bool.or_true]
theorem rw1_c (h : startE t r y = 0) (h2 : (hs.length : Int) ≤ 20) (h3 : ys ≤ 40) : startE t r y = rw1 t r y ys hs := by
 unfold rw1
 rw [if_neg (by omega), if_neg, h]
 rw [decide_eq_false (by omega), decide_eq_false (by omega)]
 exact Bool.false_ne_true
theorem within_nil' : within 0 5000 [] = true := within_iff.2 fun e he => by cases he
theorem rw2_0 : rw1 t r y ys hs = rw2 t r y ys hs 0 := by
 unfold rw2
 by_cases h : rw1 t r y ys hs = 0
 ·rw [if_neg (fun h2 => h2 h), List.take_zero, if_pos within_nil', h]
 ·rw [if_pos h]
theorem rw2_z (h : rw2 t r y ys hs k = 0) : rw1 t r y ys hs = 0 ∧ within 0 5000 (hs.take k) = true := by
 unfold rw2 at h
 split at h
 ·rename_i h1; exact absurd h h1
 ·rename_i h1
  split at h
  ·rename_i h2; exact ⟨Decidable.not_not.1 h1, h2⟩
  ·cases h
theorem rw2_out (h : rw2 t r y ys hs k = 0) (hk : k < hs.length) (h2 : ix hs k < 0 ∨ 5000 < ix hs k) : 3 = rw2 t r y ys hs (k + 1) := by
 obtain ⟨h3, _⟩ := rw2_z h
 unfold rw2
 rw [if_neg (fun h4 => h4 h3), if_neg]
 intro h4
 have := within_iff.1 h4 (ix hs k) (by rw [take_ix hk]; simp)
 omega
theorem rw2_in (h : rw2 t r y ys hs k = 0) (hk : k < hs.length) (h2 : 0 ≤ ix hs k) (h3 : ix hs k ≤ 5000) : rw2 t r y ys hs k = rw2 t r y ys hs (k + 1) := by
 obtain ⟨h4, h5⟩ := rw2_z h
 rw [h]
 unfold rw2
 rw [if_neg (fun h6 => h6 h4), if_pos]
 refine within_iff.2 fun e he => ?_
 rw [take_ix hk, List.mem_append, List.mem_singleton] at he
 rcases he with he | rfl
 ·exact within_iff.1 h5 e he
 ·exact ⟨h2, h3⟩
theorem rw2_stop (h : rw2 t r y ys hs k ≠ 0) : rw2 t r y ys hs k = rw2 t r y ys hs hs.length := by
 unfold rw2 at h ⊢
 split
 ·rfl
 ·rename_i h1
  rw [if_neg h1] at h
  split at h
  ·exact absurd rfl h
  ·rename_i h2
   rw [if_neg h2, if_neg]
   intro h3
   refine h2 (within_iff.2 fun e he => ?_)
   rw [List.take_length] at h3
   exact within_iff.1 h3 e (List.mem_of_mem_take he)
theorem rw2_full (h : hs.length ≤ k) (hk : k ≤ hs.length) : rw2 t r y ys hs k = rw2 t r y ys hs hs.length := by rw [show k = hs.length by omega]
theorem rw3_a (h : rw2 t r y ys hs hs.length ≠ 0) : rw2 t r y ys hs hs.length = rotE t r y m hs ys := by
 unfold rw2 rw1 at h ⊢
 unfold rotE
 rw [List.take_length] at h ⊢
 by_cases h1 : startE t r y ≠ 0
 ·rw [if_pos h1, if_pos h1]
  rw [if_pos h1]
 ·rw [if_neg h1] at h ⊢
  rw [if_neg h1]
  by_cases h2 : (decide ((20 : Int) < (hs.length : Int)) || decide (40 < ys)) = true
  ·rw [if_pos h2, if_pos h2, if_pos (by decide)]
  ·rw [if_neg h2] at h ⊢
   rw [if_neg h2]
   rw [if_neg (by decide)] at h ⊢
   by_cases h3 : within 0 5000 hs = true
   ·rw [if_pos h3] at h; exact absurd rfl h
   ·rw [if_neg h3, if_pos]
    rw [show within 0 5000 hs = false by simpa using h3]
    rfl
theorem rw2_y (h : rw2 t r y ys hs hs.length = 0) : startE t r y = 0 ∧ hs.length ≤ 20 ∧ ys ≤ 40 ∧ within 0 5000 hs = true := by
 obtain ⟨h1, h2⟩ := rw2_z h
 rw [List.take_length] at h2
 unfold rw1 at h1
 split at h1
 ·rename_i h3; exact absurd h1 h3
 ·rename_i h3
  split at h1
  ·cases h1
  ·rename_i h4
   simp only [Bool.not_eq_true, Bool.or_eq_false_iff, decide_eq_false_iff_not] at h4
   exact ⟨by omega, by omega, by omega, h2⟩
theorem rw3_b (h : rw2 t r y ys hs hs.length = 0) (h2 : m < 0 ∨ 20 < m ∨ ys < 0 ∨ 9999 < y + ys - 1) : 3 = rotE t r y m hs ys := by
 obtain ⟨h3, h4, h5, h6⟩ := rw2_y h
 unfold rotE
 rw [if_neg (by omega), if_neg (by rw [decide_eq_false (by omega), decide_eq_false (by omega)]; exact Bool.false_ne_true), if_pos]
 rw [h6]
 by_cases h7 : 0 ≤ m ∧ m ≤ 20
 ·rw [within1.2 h7]
  by_cases h8 : ys < 0
  ·rw [decide_eq_true h8]; rfl
  ·rw [decide_eq_false h8, decide_eq_true (show 9999 < y + ys - 1 by omega)]; rfl
 ·rw [show within 0 20 [m] = false by rw [Bool.eq_false_iff]; exact fun h8 => h7 (within1.1 h8)]; rfl
theorem rw3_c (h : rw2 t r y ys hs hs.length = 0) (h1 : 0 ≤ m) (h2 : m ≤ 20) (h3 : 0 ≤ ys) (h4 : y + ys - 1 ≤ 9999) : rw2 t r y ys hs hs.length = rotE t r y m hs ys := by
 obtain ⟨h5, h6, h7, h8⟩ := rw2_y h
 rw [h]
 unfold rotE
 rw [if_neg (by omega), if_neg (by rw [decide_eq_false (by omega), decide_eq_false (by omega)]; exact Bool.false_ne_true), if_neg]
 rw [h8, within1.2 ⟨h1, h2⟩, decide_eq_false (by omega), decide_eq_false (by omega)]
 exact Bool.false_ne_true
end
end Go.Proofs.Ytbpblhmigijkaaa
