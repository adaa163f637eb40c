/- The reference: rows of angles one after another. Plain laws. -/
import Derived.Test.YtbpblhmigijkaaaTan
namespace Go.Proofs.Ytbpblhmigijkaaa
open Go.RowKit
set_option linter.unusedVariables false
def takeR (n : Nat → Int) (g m : Int) (f : Nat) : List Int := (rowV n g (f : Int)).take m.toNat
def chS (n : Nat → Int) (g m : Int) (p : Nat → Bool) (o : List Int) (f : Nat) : List Int := if p f = true ∧ o.length < (takeR n g m f).length then takeR n g m f else o
def chO (n : Nat → Int) (g m : Int) (p : Nat → Bool) : Nat → List Int
 | 0 => []
 | f + 1 => chS n g m p (chO n g m p f) f
theorem takeR_len {n : Nat → Int} {g m : Int} {f : Nat} (hm : 0 ≤ m) : (((takeR n g m f).length : Nat) : Int) = min m ((rowV n g (f : Int)).length : Int) := by
 unfold takeR
 rw [List.length_take]
 omega
theorem chO_no {n : Nat → Int} {g m : Int} {p : Nat → Bool} {f : Nat} {o : List Int} (ho : o = chO n g m p f) (h : p f = false) : o = chO n g m p (f + 1) := by
 show _ = chS n g m p (chO n g m p f) f
 unfold chS
 rw [← ho, h, if_neg (fun h => by cases h.1)]
theorem chO_set {n : Nat → Int} {g m : Int} {p : Nat → Bool} {f : Nat} {o l : List Int} (ho : o = chO n g m p f) (h : p f = true) (hl : l = takeR n g m f) (hlt : o.length < l.length) : l = chO n g m p (f + 1) := by
 show _ = chS n g m p (chO n g m p f) f
 unfold chS
 rw [← ho, ← hl, if_pos ⟨h, hlt⟩]
theorem chO_le {n : Nat → Int} {g m : Int} {p : Nat → Bool} {f : Nat} {o l : List Int} (ho : o = chO n g m p f) (hl : l = takeR n g m f) (hlt : l.length ≤ o.length) : o = chO n g m p (f + 1) := by
 show _ = chS n g m p (chO n g m p f) f
 unfold chS
 rw [← ho, ← hl, if_neg (fun h => by omega)]
theorem chO_len {n : Nat → Int} {g m : Int} {p : Nat → Bool} (hm : 0 ≤ m) : ∀ {f : Nat}, (((chO n g m p f).length : Nat) : Int) ≤ m := by
 intro f
 induction f with
 | zero => exact hm
 | succ f ih =>
  show ((((chS n g m p (chO n g m p f) f).length : Nat)) : Int) ≤ m
  unfold chS
  split
  ·rw [takeR_len hm]; omega
  ·exact ih
theorem chO_stop {n : Nat → Int} {g m : Int} {p : Nat → Bool} (hm : 0 ≤ m) {f : Nat} (h : m ≤ (((chO n g m p f).length : Nat) : Int)) : ∀ {j : Nat}, chO n g m p (f + j) = chO n g m p f := by
 intro j
 induction j with
 | zero => rfl
 | succ j ih =>
  show chS n g m p (chO n g m p (f + j)) (f + j) = _
  unfold chS
  rw [ih, if_neg]
  intro h2
  have := takeR_len (n := n) (g := g) (f := f + j) hm
  omega
theorem chO_end {n : Nat → Int} {g m : Int} {p : Nat → Bool} (hm : 0 ≤ m) {f : Nat} {o : List Int} (ho : o = chO n g m p f) (hf : f ≤ 3600) (h : 3600 ≤ f ∨ m ≤ (o.length : Int)) : o = chO n g m p 3600 := by
 rw [ho] at h ⊢
 rcases h with h | h
 ·rw [show f = 3600 by omega]
 ·have := chO_stop hm h (j := 3600 - f)
  rw [show f + (3600 - f) = 3600 by omega] at this
  exact this.symm
theorem nx_on {p : Int → Bool} {n : Nat → Int} (h : NextOf p n) {a : Int} (h0 : 0 ≤ a) (h1 : a < 3600) (hp : p a = true) : fromV n a = a := by
 rcases h a h0 with ⟨q1, q2⟩ | ⟨q1, q2, q3, q4⟩
 ·rw [q2 a (Int.le_refl a) h1] at hp; cases hp
 ·rcases Int.lt_or_le a (fromV n a) with hlt | hle
  ·rw [q4 a (Int.le_refl a) hlt] at hp; cases hp
  ·omega
theorem nx_off {p : Int → Bool} {n : Nat → Int} (h : NextOf p n) {a : Int} (h0 : 0 ≤ a) (hp : p a = false) : fromV n a = fromV n (a + 1) := by
 rcases h a h0 with ⟨q1, q2⟩ | ⟨q1, q2, q3, q4⟩
 ·rcases h (a + 1) (by omega) with ⟨r1, r2⟩ | ⟨r1, r2, r3, r4⟩
  ·omega
  ·rw [q2 _ (by omega) r2] at r3; cases r3
 ·have hne : fromV n a ≠ a := fun e => by rw [e, hp] at q3; cases q3
  rcases h (a + 1) (by omega) with ⟨r1, r2⟩ | ⟨r1, r2, r3, r4⟩
  ·rw [r2 _ (by omega) q2] at q3; cases q3
  ·rcases Int.lt_trichotomy (fromV n a) (fromV n (a + 1)) with hh | hh | hh
   ·rw [r4 _ (by omega) hh] at q3; cases q3
   ·exact hh
   ·rw [q4 _ (by omega) hh] at r3; cases r3
def nextM (n : Nat → Int) (k : Nat) : Int := min (n k) 3600
def DownOk (n : Nat → Int) (c : Nat → Int) (b : Int) : Prop := ∀ k : Nat, b < (k : Int) → k ≤ 3600 → c k = nextM n k
theorem from_nat {n : Nat → Int} {k : Nat} (h : k ≤ 3600) : fromV n (k : Int) = n k := by
 unfold fromV
 rw [show (min (k : Int) 3600).toNat = k by omega]
theorem nx_end {p : Int → Bool} {n : Nat → Int} (h : NextOf p n) : n 3600 = 7200 := by
 have := from_nat (n := n) (k := 3600) (Nat.le_refl _)
 rcases h ((3600 : Nat) : Int) (by omega) with ⟨q1, _⟩ | ⟨q1, q2, _⟩ <;> omega
theorem down_start {p : Int → Bool} {n c : Nat → Int} (h : NextOf p n) : DownOk n (setF c 3600 3600) 3599 := fun k h1 h2 => by
 have : k = 3600 := by omega
 subst this
 unfold setF nextM
 rw [if_pos rfl, nx_end h]
 rfl
theorem down_no {p : Nat → Bool} {n c : Nat → Int} (h : NextOf (fun a => p a.toNat) n) {b : Int} (hc : DownOk n c b) (h0 : 0 ≤ b) (h1 : b ≤ 3599) (hp : p b.toNat = false) : DownOk n (setF c b.toNat (c (b + 1).toNat)) (b - 1) := fun k h2 h3 => by
 unfold setF
 by_cases e : k = b.toNat
 ·have q := nx_off h h0 hp
  rw [show b = (b.toNat : Int) by omega, show (b.toNat : Int) + 1 = ((b.toNat + 1 : Nat) : Int) by omega, from_nat (by omega), from_nat (by omega)] at q
  rw [if_pos e, e, hc (b + 1).toNat (by omega) (by omega), show (b + 1).toNat = b.toNat + 1 by omega]
  unfold nextM
  rw [q]
 ·rw [if_neg e]
  exact hc k (by omega) h3
theorem down_on {p : Nat → Bool} {n c : Nat → Int} (h : NextOf (fun a => p a.toNat) n) {b v : Int} (hc : DownOk n c b) (h0 : 0 ≤ b) (h1 : b ≤ 3599) (hp : p b.toNat = true) : DownOk n (setF (setF c b.toNat v) b.toNat b) (b - 1) := fun k h2 h3 => by
 unfold setF
 by_cases e : k = b.toNat
 ·have q := nx_on h h0 (by omega) hp
  rw [show b = (b.toNat : Int) by omega, from_nat (by omega)] at q
  rw [if_pos e, e]
  unfold nextM
  rw [q]
  omega
 ·rw [if_neg e, if_neg e]
  exact hc k (by omega) h3
theorem nextsC_of {c c2 : Nat → Int} {ρ : List (Nat × Nat)} (h : ∀ k, k < 3601 → c k = c2 k) : nextsC c = (nextsC c2).map (LV.ren ρ) := by
 rw [← nextsC_le (ρ := ρ) (n := c2) rfl]
 unfold nextsC
 have key : ∀ (k i : Nat), i + k ≤ 3601 → cellsI c k i [] = cellsI c2 k i [] := by
  intro k
  induction k with
  | zero => intro i _; rfl
  | succ k ih => intro i hi; simp only [cellsI, ih (i + 1) (by omega), h i (by omega)]
 exact key 3601 0 (by omega)
def lastI (l : List Int) : Int := ix l (l.length - 1)
structure RowInv (n : Nat → Int) (g m : Int) (f : Nat) (l : List Int) : Prop where
 pos : 0 < l.length
 le : (l.length : Int) ≤ m
 row : l ++ rowL n g (f : Int) (3601 - l.length) (fromV n (lastI l + g)) = rowV n g (f : Int)
 last : (f : Int) + (l.length : Int) - 1 ≤ lastI l ∧ lastI l ≤ 3599
theorem last_snoc {l : List Int} {v : Int} : lastI (l ++ [v]) = v := by
 unfold lastI ix
 simp
theorem row_start {n : Nat → Int} {g m : Int} {f : Nat} (hm : 1 ≤ m) (hf : f < 3600) : RowInv n g m f [(f : Int)] where
 pos := by simp
 le := hm
 row := by rw [rowV_cons]; rfl
 last := by
  show _ ≤ (f : Int) ∧ (f : Int) ≤ 3599
  simp only [List.length_singleton]
  omega
theorem row_end {n : Nat → Int} {g m : Int} {f : Nat} {l : List Int} (h : RowInv n g m f l) (hl : m ≤ (l.length : Int)) : l = takeR n g m f := by
 have h1 := h.le
 unfold takeR
 rw [← h.row, List.take_append_of_le_length (by omega), List.take_of_length_le (by omega)]
theorem row_stop {n : Nat → Int} {g m : Int} {f : Nat} {l : List Int} (h : RowInv n g m f l) (hl : ¬ (fromV n (lastI l + g) = (f : Int) ∨ (fromV n (lastI l + g) ≤ (f : Int) + 3600 - g ∧ fromV n (lastI l + g) < 3600))) : l = takeR n g m f := by
 have h1 := h.le
 unfold takeR
 have := h.row
 rw [rowL_stop hl, List.append_nil] at this
 rw [← this, List.take_of_length_le (by omega)]
theorem row_far {n : Nat → Int} {g m : Int} {f : Nat} {l : List Int} (hn : nextOk n) (hg : 1 ≤ g) (h : RowInv n g m f l) (hl : 3599 < min (fromV n (lastI l + g)) 3600 ∨ 3600 - min g 3600 < min (fromV n (lastI l + g)) 3600 - (f : Int)) : l = takeR n g m f := by
 have h2 := h.last
 have h4 := h.pos
 have h3 := fromV_le hn (a := lastI l + g) (by omega)
 exact row_stop h (by omega)
theorem row_on {n : Nat → Int} {g m : Int} {f : Nat} {l : List Int} (hn : nextOk n) (hg : 1 ≤ g) (h : RowInv n g m f l) (hm : (l.length : Int) < m) (h1 : min (fromV n (lastI l + g)) 3600 ≤ 3599) (h2 : min (fromV n (lastI l + g)) 3600 - (f : Int) ≤ 3600 - min g 3600) : RowInv n g m f (l ++ [min (fromV n (lastI l + g)) 3600]) := by
 have h3 := h.last
 have h4 := h.pos
 have h5 := fromV_le hn (a := lastI l + g) (by omega)
 have e : min (fromV n (lastI l + g)) 3600 = fromV n (lastI l + g) := by omega
 have hlen : (l ++ [fromV n (lastI l + g)]).length = l.length + 1 := by simp
 rw [e]
 refine ⟨by omega, by omega, ?_, ?_⟩
 ·rw [last_snoc, hlen, ← h.row, rowL_cons (k := 3601 - l.length) (by omega) (.inr (by omega)), List.append_assoc, List.singleton_append, show 3601 - l.length - 1 = 3601 - (l.length + 1) by omega]
 ·rw [last_snoc, hlen]
  omega
theorem angV_next {x : TrkV} {e : Int} (hw : within x.r.blo x.r.bhi [e] = true) : NextOf (fun a => angV x e a.toNat) (nextV x e) := fun a ha => by
 have hq : ∀ k : Int, 0 ≤ k → angV x e k.toNat = roomB x e k := fun k hk => by
  unfold angV roomB
  rw [hw, Bool.true_and, show (k.toNat : Int) = k by omega]
 rcases next_of x e a ha with ⟨q1, q2⟩ | ⟨q1, q2, q3, q4⟩
 ·exact .inl ⟨q1, fun k h1 h2 => by show angV x e k.toNat = false; rw [hq k (by omega)]; exact q2 k h1 h2⟩
 ·exact .inr ⟨q1, q2, by show angV x e _ = true; rw [hq _ (by omega)]; exact q3, fun k h1 h2 => by show angV x e k.toNat = false; rw [hq k (by omega)]; exact q4 k h1 h2⟩
theorem chO_at {n : Nat → Int} {g m : Int} {p : Nat → Bool} : ∀ {f : Nat}, chO n g m p f = [] ∨ ∃ q, q < f ∧ p q = true ∧ chO n g m p f = takeR n g m q := by
 intro f
 induction f with
 | zero => exact .inl rfl
 | succ f ih =>
  have hd : chO n g m p (f + 1) = chS n g m p (chO n g m p f) f := rfl
  rw [hd]
  unfold chS
  split
  ·rename_i h
   exact .inr ⟨f, by omega, h.1, rfl⟩
  ·rcases ih with h | ⟨q, h1, h2, h3⟩
   ·exact .inl h
   ·exact .inr ⟨q, by omega, h2, h3⟩
theorem chO_ge {n : Nat → Int} {g m : Int} {p : Nat → Bool} : ∀ {f q : Nat}, q < f → p q = true → (takeR n g m q).length ≤ (chO n g m p f).length := by
 intro f
 induction f with
 | zero => intro q h; omega
 | succ f ih =>
  intro q h hp
  have hd : chO n g m p (f + 1) = chS n g m p (chO n g m p f) f := rfl
  rw [hd]
  unfold chS
  by_cases e : q = f
  ·subst e
   split
   ·exact Nat.le_refl _
   ·rename_i h2
    have : ¬ (chO n g m p q).length < (takeR n g m q).length := fun h3 => h2 ⟨hp, h3⟩
    omega
  ·have := ih (q := q) (by omega) hp
   split
   ·omega
   ·exact this
theorem ch_most {n : Nat → Int} {g m : Int} {p : Nat → Bool} (h : NextOf (fun a => p a.toNat) n) (hm : 0 ≤ m) : (((chO n g m p 3600).length : Nat) : Int) = min m (mostV n g) := by
 have h0 := most_nn (n := n) (g := g)
 have h1 : (((chO n g m p 3600).length : Nat) : Int) ≤ min m (mostV n g) := by
  rcases chO_at (n := n) (g := g) (m := m) (p := p) (f := 3600) with e | ⟨q, q1, q2, e⟩
  ·rw [e, List.length_nil]; omega
  ·rw [e, takeR_len hm]
   have := most_ge (g := g) ((firstsV_mem h (f := (q : Int))).2 ⟨by omega, by omega, q2⟩)
   omega
 rcases most_at (n := n) (g := g) with e | ⟨f, hf, e⟩
 ·omega
 ·obtain ⟨f1, f2, f3⟩ := (firstsV_mem h).1 hf
  have h2 := chO_ge (n := n) (g := g) (m := m) (p := p) (f := 3600) (q := f.toNat) (by omega) f3
  have h3 := takeR_len (n := n) (g := g) (f := f.toNat) hm
  rw [show (f.toNat : Int) = f by omega] at h3
  omega
theorem ch_ang {n : Nat → Int} {g m : Int} {p : Nat → Bool} (h : NextOf (fun a => p a.toNat) n) (hm : 1 ≤ m) : ∀ {f : Nat}, f ≤ 3600 → (m ≤ (((chO n g m p f).length : Nat) : Int) → anglesO n g m = some (chO n g m p f)) ∧ ((((chO n g m p f).length : Nat) : Int) < m → ∃ k : Nat, 3600 - fromV n (f : Int) < (k : Int) ∧ (firstsL n k (fromV n (f : Int))).findSome? (angF n g m) = (firstsV n).findSome? (angF n g m)) := by
 intro f
 induction f with
 | zero =>
  intro _
  refine ⟨fun h1 => by simp only [chO, List.length_nil] at h1; omega, fun _ => ⟨3601, ?_, rfl⟩⟩
  rcases h 0 (Int.le_refl 0) with ⟨q1, _⟩ | ⟨q1, _⟩ <;> show 3600 - fromV n 0 < _ <;> omega
 | succ f ih =>
  intro hf
  obtain ⟨i1, i2⟩ := ih (by omega)
  have hd : chO n g m p (f + 1) = chS n g m p (chO n g m p f) f := rfl
  by_cases hfull : m ≤ (((chO n g m p f).length : Nat) : Int)
  ·have e : chO n g m p (f + 1) = chO n g m p f := chO_stop (by omega) hfull (j := 1)
   rw [e]
   exact ⟨fun _ => i1 hfull, fun h2 => by omega⟩
  ·obtain ⟨k, k1, k2⟩ := i2 (by omega)
   have hcast : (((f + 1 : Nat)) : Int) = (f : Int) + 1 := by omega
   cases hp : p f with
   | false =>
    have e : chO n g m p f = chO n g m p (f + 1) := chO_no rfl hp
    rw [← e, hcast, ← nx_off h (a := (f : Int)) (by omega) hp]
    exact ⟨i1, fun _ => ⟨k, k1, k2⟩⟩
   | true =>
    have e := nx_on h (a := (f : Int)) (by omega) (by omega) hp
    rw [e] at k1 k2
    have hlen := takeR_len (n := n) (g := g) (m := m) (f := f) (by omega)
    by_cases hr : m ≤ ((rowV n g (f : Int)).length : Int)
    ·have e2 : chO n g m p (f + 1) = takeR n g m f := by
      rw [hd]
      unfold chS
      rw [if_pos ⟨hp, by omega⟩]
     rw [e2]
     refine ⟨fun _ => ang_found (by omega) k2 (by omega) (by omega) ?_, fun h3 => by omega⟩
     unfold angF
     rw [if_pos hr]
     rfl
    ·have hno : angF n g m (f : Int) = none := by
      unfold angF
      rw [if_neg hr]
     have hl2 : (((chO n g m p (f + 1)).length : Nat) : Int) < m := by
      rw [hd]
      unfold chS
      split
      ·omega
      ·omega
     refine ⟨fun h3 => by omega, fun _ => ⟨k - 1, ?_, ?_⟩⟩
     ·rw [hcast]
      rcases h ((f : Int) + 1) (by omega) with ⟨q1, _⟩ | ⟨q1, _⟩ <;> omega
     ·rw [hcast]
      exact ang_next k2 (by omega) (by omega) hno
theorem ch_some {n : Nat → Int} {g m : Int} {p : Nat → Bool} (h : NextOf (fun a => p a.toNat) n) (hm : 1 ≤ m) (hl : m ≤ (((chO n g m p 3600).length : Nat) : Int)) : anglesO n g m = some (chO n g m p 3600) := (ch_ang h hm (Nat.le_refl 3600)).1 hl
theorem ch_none {n : Nat → Int} {g m : Int} {p : Nat → Bool} (h : NextOf (fun a => p a.toNat) n) (hm : 1 ≤ m) (hl : (((chO n g m p 3600).length : Nat) : Int) < m) : anglesO n g m = none := by
 have h1 := ch_most (g := g) h (m := m) (by omega)
 have h2 := angO_some (n := n) (g := g) hm
 have h3 : ¬ m ≤ mostV n g := by omega
 cases ha : anglesO n g m with
 | none => rfl
 | some l =>
  rw [ha] at h2
  exact absurd (h2.1 rfl) h3
theorem ang_far {x : TrkV} {e m : Int} (hw : within x.r.blo x.r.bhi [e] = false) (hm : m ≠ 0) (h0 : 0 ≤ m) : anglesO (nextV x e) (gapV x) m = none := by
 have h1 := most_none (next_of x e) (g := gapV x) fun k _ _ => by unfold roomB; rw [hw, Bool.false_and]
 have h2 := angO_some (n := nextV x e) (g := gapV x) (m := m) (by omega)
 cases ha : anglesO (nextV x e) (gapV x) m with
 | none => rfl
 | some l =>
  rw [ha] at h2
  have := h2.1 rfl
  omega
end Go.Proofs.Ytbpblhmigijkaaa
