/- Rooms: plain laws. -/
import Derived.Test.YtbpblhmigijkaaaTd
namespace Go.Proofs.Ytbpblhmigijkaaa
open Go.RowKit
set_option linter.unusedVariables false
theorem roomC_le2 {n n2 : Nat → Int} {g g2 : Int} {ρ : List (Nat × Nat)} (h : ∀ k, k < 3601 → n k = n2 k) (h2 : g = g2) : roomC n g = (roomC n2 g2).map (LV.ren ρ) := by
 subst h2
 rw [← roomC_le (ρ := ρ) (n := n2) rfl rfl]
 unfold roomC
 have key : ∀ (k i : Nat) (tl : List LV), i + k ≤ 3601 → cellsI n k i tl = cellsI n2 k i tl := by
  intro k
  induction k with
  | zero => intro i tl _; rfl
  | succ k ih => intro i tl hi; simp only [cellsI, ih (i + 1) tl (by omega), h i (by omega)]
 exact key 3601 0 _ (by omega)
def FillOk (q : Int → Bool) (m : Nat → Int) : Prop := ∀ k : Nat, k ≤ 3600 → m k = if k < 3600 ∧ q k = true then (k : Int) else 7200
def noneB : Int → Bool := fun _ => false
theorem fill_none {n : Nat → Int} (h : ∀ k, k < 3601 → n k = 7200) : FillOk noneB n := fun k hk => by
 rw [h k (by omega)]
 simp [noneB]
def inTo (s : List Rg) (lo a : Int) : Int → Bool := fun k => inS s k || (decide (lo ≤ k) && decide (k < a))
theorem fill_start {s : List Rg} {m : Nat → Int} {lo : Int} (h : FillOk (inS s) m) : FillOk (inTo s lo lo) m := fun k hk => by
 rw [h k hk]
 have : inTo s lo lo k = inS s k := by
  unfold inTo
  have : (decide (lo ≤ (k : Int)) && decide ((k : Int) < lo)) = false := by
   rw [Bool.and_eq_false_iff, decide_eq_false_iff_not, decide_eq_false_iff_not]
   omega
  rw [this, Bool.or_false]
 rw [this]
theorem fill_step {s : List Rg} {m : Nat → Int} {lo a : Int} (h : FillOk (inTo s lo a) m) (h0 : 0 ≤ a) (h1 : lo ≤ a) (h2 : a ≤ 3599) : FillOk (inTo s lo (a + 1)) (setF m a.toNat a) := fun k hk => by
 unfold setF
 by_cases e : k = a.toNat
 ·rw [if_pos e]
  have e2 : (k : Int) = a := by omega
  rw [if_pos ⟨by omega, by rw [e2]; unfold inTo; simp; right; omega⟩, e2]
 ·rw [if_neg e, h k hk]
  have : inTo s lo (a + 1) k = inTo s lo a k := by
   unfold inTo
   congr 2
   rw [decide_eq_decide]
   omega
  rw [this]
theorem inS_snoc {s : List Rg} {r : Rg} {k : Int} : inS (s ++ [r]) k = (inS s k || (decide (r.low ≤ k) && decide (k ≤ r.high))) := by
 unfold inS
 simp
theorem take_ix {α : Type} [Inhabited α] {l : List α} {i : Nat} (h : i < l.length) : l.take (i + 1) = l.take i ++ [ix l i] := by
 rw [List.take_succ_eq_append_getElem h]
 congr 2
 unfold ix
 rw [List.getD_eq_getElem?_getD, List.getElem?_eq_getElem h]
 rfl
theorem fill_end {l : List Rg} {j : Nat} {m : Nat → Int} {a : Int} (hj : j < l.length) (h : FillOk (inTo (l.take j) (ix l j).low a) m) (ha : a = (ix l j).high + 1) : FillOk (inS (l.take (j + 1))) m := fun k hk => by
 rw [h k hk]
 have : inS (l.take (j + 1)) k = inTo (l.take j) (ix l j).low a k := by
  rw [take_ix hj, inS_snoc]
  unfold inTo
  congr 2
  rw [decide_eq_decide]
  omega
 rw [this]
theorem fill_room {x : TrkV} {e : Int} {m : Nat → Int} (hw : within x.r.blo x.r.bhi [e] = true) (h : FillOk (inS (freeV x e)) m) : FillOk (roomB x e) m := fun k hk => by
 rw [h k hk]
 have : roomB x e k = inS (freeV x e) k := by unfold roomB; rw [hw, Bool.true_and]
 rw [this]
theorem fill_no {x : TrkV} {e : Int} {m : Nat → Int} (hw : within x.r.blo x.r.bhi [e] = false) (h : FillOk noneB m) : FillOk (roomB x e) m := fun k hk => by
 rw [h k hk]
 have : roomB x e k = false := by unfold roomB; rw [hw, Bool.false_and]
 rw [this]
 rfl
def HalfOk (x : TrkV) (e b : Int) (c : Nat → Int) : Prop := ∀ k : Nat, k ≤ 3600 → c k = if (k : Int) ≤ b then (if roomB x e k then (k : Int) else 7200) else nextV x e k
theorem half_start {x : TrkV} {e : Int} {m : Nat → Int} (h : FillOk (roomB x e) m) : HalfOk x e 3599 m := fun k hk => by
 rw [h k hk]
 by_cases h1 : k < 3600
 ·rw [if_pos (show (k : Int) ≤ 3599 by omega)]
  by_cases h2 : roomB x e k = true
  ·rw [if_pos ⟨h1, h2⟩, if_pos h2]
  ·rw [if_neg (fun h => h2 h.2), if_neg h2]
 ·rw [if_neg (fun h => h1 h.1), if_neg (show ¬ (k : Int) ≤ 3599 by omega)]
  unfold nextV
  rw [if_neg h1]
theorem nextL_ge {p : Int → Bool} : ∀ {k : Nat} {a : Int}, 0 ≤ a → a + k ≤ 3600 → a ≤ nextL p k a ∧ nextL p k a ≤ 7200 := by
 intro k
 induction k with
 | zero => intro a h0 h; simp only [nextL]; omega
 | succ k ih =>
  intro a h0 h
  simp only [nextL]
  split
  ·omega
  ·have := ih (a := a + 1) (by omega) (by omega)
   omega
theorem nextV_ok (x : TrkV) (e : Int) : nextOk (nextV x e) := fun i hi => by
 unfold nextV
 split
 ·exact nextL_ge (by omega) (by omega)
 ·omega
theorem nextV_step {x : TrkV} {e : Int} {k : Nat} (h : k < 3600) : nextV x e k = if roomB x e k then (k : Int) else nextV x e (k + 1) := by
 unfold nextV
 rw [if_pos h, show 3600 - k = (3600 - (k + 1)) + 1 by omega]
 simp only [nextL]
 split
 ·rfl
 ·split
  ·rfl
  ·rw [show 3600 - (k + 1) = 0 by omega]
   rfl
theorem half_step {x : TrkV} {e b : Int} {c : Nat → Int} (h : HalfOk x e b c) (h0 : 0 ≤ b) (h1 : b ≤ 3599) : HalfOk x e (b - 1) (setF c b.toNat (min (c b.toNat) (c (b + 1).toNat))) := fun k hk => by
 have hb : (b.toNat : Int) = b := by omega
 unfold setF
 by_cases e1 : k = b.toNat
 ·subst e1
  have q1 := h b.toNat hk
  rw [if_pos (show (b.toNat : Int) ≤ b by omega)] at q1
  have q2 := h (b.toNat + 1) (by omega)
  rw [if_neg (show ¬ ((b.toNat + 1 : Nat) : Int) ≤ b by omega)] at q2
  have hn := nextV_ok x e (b.toNat + 1) (by omega)
  rw [if_pos rfl, if_neg (show ¬ (b.toNat : Int) ≤ b - 1 by omega), nextV_step (show b.toNat < 3600 by omega), q1, show (b + 1).toNat = b.toNat + 1 by omega, q2]
  split
  ·omega
  ·omega
 ·rw [if_neg e1, h k hk]
  by_cases h2 : (k : Int) ≤ b - 1
  ·rw [if_pos h2, if_pos (by omega)]
  ·rw [if_neg h2, if_neg (by omega)]
theorem half_end {x : TrkV} {e b : Int} {c : Nat → Int} (h : HalfOk x e b c) (hb : b < 0) : ∀ k, k < 3601 → c k = nextV x e k := fun k hk => by
 rw [h k (by omega), if_neg (by omega)]
def angF (n : Nat → Int) (g m f : Int) : Option (List Int) := if m ≤ ((rowV n g f).length : Int) then some ((rowV n g f).take m.toNat) else none
def anglesO (n : Nat → Int) (g m : Int) : Option (List Int) := if m = 0 then some [] else (firstsV n).findSome? (angF n g m)
theorem ang_none {n : Nat → Int} {g m f : Int} {o : List Int} (h : o = rowV n g f) (hl : (o.length : Int) < m) : angF n g m f = none := by
 unfold angF
 rw [← h, if_neg (by omega)]
theorem ang_some {n : Nat → Int} {g m f : Int} {o r : List Int} (h : o ++ r = rowV n g f) (hl : (o.length : Int) = m) : angF n g m f = some o := by
 unfold angF
 rw [← h, if_pos (by simp; omega)]
 congr 1
 rw [show m.toNat = o.length by omega]
 simp
theorem ang_found {n : Nat → Int} {g m a : Int} {k : Nat} {o : List Int} (hm : m ≠ 0) (hf : (firstsL n k a).findSome? (angF n g m) = (firstsV n).findSome? (angF n g m)) (hk : 0 < k) (ha : a < 3600) (h : angF n g m a = some o) : anglesO n g m = some o := by
 unfold anglesO
 rw [if_neg hm, ← hf, firstsL_cons hk ha, List.findSome?_cons, h]
theorem ang_next {n : Nat → Int} {g m a : Int} {k : Nat} (hf : (firstsL n k a).findSome? (angF n g m) = (firstsV n).findSome? (angF n g m)) (hk : 0 < k) (ha : a < 3600) (h : angF n g m a = none) : (firstsL n (k - 1) (fromV n (a + 1))).findSome? (angF n g m) = (firstsV n).findSome? (angF n g m) := by
 rw [← hf, firstsL_cons hk ha, List.findSome?_cons, h]
theorem ang_no {n : Nat → Int} {g m a : Int} {k : Nat} (hm : m ≠ 0) (hf : (firstsL n k a).findSome? (angF n g m) = (firstsV n).findSome? (angF n g m)) (ha : ¬ a < 3600) : anglesO n g m = none := by
 unfold anglesO
 rw [if_neg hm, ← hf, firstsL_stop ha]
 rfl
theorem set_snoc {n : Nat → Int} {i : Nat} {v : Int} (h : ∀ k, k < i → n k = v) : ∀ k, k < i + 1 → setF n i v k = v := fun k hk => by
 unfold setF
 split
 ·rfl
 ·exact h k (by omega)
theorem fill_all {l : List Rg} {j : Nat} {m : Nat → Int} (h : FillOk (inS (l.take j)) m) (hj : l.length ≤ j) : FillOk (inS l) m := by
 rw [List.take_of_length_le hj] at h
 exact h
theorem half_bd {x : TrkV} {e b : Int} {c : Nat → Int} (h : HalfOk x e b c) {k : Nat} (hk : k ≤ 3600) : 0 ≤ c k ∧ c k ≤ 7200 := by
 rw [h k hk]
 have := nextV_ok x e k hk
 split
 ·split <;> omega
 ·omega
theorem foldOff_ok : ∀ {l : List Rg} {s : List Rg} {n : Nat}, FreeOk s n → (∀ r, r ∈ l → 0 ≤ r.low ∧ r.low ≤ r.high ∧ r.high ≤ 3599) → FreeOk (l.foldl offR s) (n + l.length) := by
 intro l
 induction l with
 | nil => intro s n h _; exact h
 | cons r l ih =>
  intro s n h hl
  have := ih (off_ok h (hl r List.mem_cons_self)) fun q hq => hl q (List.mem_cons_of_mem _ hq)
  rw [List.foldl_cons]
  exact this.mono (by simp; omega)
theorem arcV_ok {a m : Int} : (∀ r, r ∈ arcV a m → 0 ≤ r.low ∧ r.low ≤ r.high ∧ r.high ≤ 3599) ∧ (arcV a m).length ≤ 3 := by
 have hl : ∀ l h b, (arcR l h b).length ≤ 1 := fun l h b => by unfold arcR; split <;> simp
 unfold arcV
 split
 ·refine ⟨fun r hr => ?_, by simp⟩
  rw [List.mem_singleton.1 hr]
  decide
 ·refine ⟨fun r hr => ?_, ?_⟩
  ·rcases List.mem_append.1 hr with h | h
   ·exact arcR_ok h
   ·rcases List.mem_append.1 h with h | h
    ·exact arcR_ok h
    ·exact arcR_ok h
  ·have h1 := hl (a - m) (a + m) (-3600)
   have h2 := hl (a - m) (a + m) 0
   have h3 := hl (a - m) (a + m) 3600
   simp only [List.length_append]
   omega
theorem freeS_ok {x : TrkV} {e m : Int} {s : List Rg} {h : Hol} {n : Nat} (hs : FreeOk s n) : FreeOk (freeS x e m s h) (n + 3) := by
 unfold freeS
 split
 ·exact hs.mono (by omega)
 ·exact (foldOff_ok hs arcV_ok.1).mono (by have := (arcV_ok (a := h.angle) (m := m)).2; omega)
theorem foldS_ok {x : TrkV} {e m : Int} : ∀ {l : List Hol} {s : List Rg} {n : Nat}, FreeOk s n → FreeOk (l.foldl (freeS x e m) s) (n + 3 * l.length) := by
 intro l
 induction l with
 | nil => intro s n h; exact h
 | cons q l ih =>
  intro s n h
  rw [List.foldl_cons]
  exact (ih (freeS_ok h)).mono (by simp; omega)
theorem free_ok {x : TrkV} (hx : TrkOk x) (e : Int) : FreeOk (freeV x e) 181 := (foldS_ok first_ok).mono (by have := hx.t.len; omega)
def freeR (t : TreeV) (r : RuleV) (y e : Int) : List Rg := if atE t r y e = 0 then freeV (openV t r y) e else []
def mostR (t : TreeV) (r : RuleV) (y e : Int) : Int := if atE t r y e = 0 then mostV (nextV (openV t r y) e) (gapV (openV t r y)) else 0
def spotsL (x : TrkV) (e m : Int) : List Spt := ((anglesO (nextV x e) (gapV x) m).getD []).map fun a => ⟨a, e⟩
def spotsE (t : TreeV) (r : RuleV) (y e m : Int) : Int := if atE t r y e ≠ 0 then atE t r y e else if within 0 20 [m] then (if (anglesO (nextV (openV t r y) e) (gapV (openV t r y)) m).isSome then 0 else 7) else 3
def spotsR (t : TreeV) (r : RuleV) (y e m : Int) : List Spt := if spotsE t r y e m = 0 then spotsL (openV t r y) e m else []
theorem angO_len {n : Nat → Int} {g m : Int} (hm : 0 ≤ m ∧ m ≤ 1000) : ((anglesO n g m).getD []).length ≤ 1000 := by
 unfold anglesO
 split
 ·simp
 ·cases h : (firstsV n).findSome? (angF n g m) with
  | none => simp
  | some o =>
   obtain ⟨f, _, hf⟩ := List.exists_of_findSome?_eq_some h
   unfold angF at hf
   split at hf
   ·cases hf
    simp only [Option.getD_some, List.length_take]
    omega
   ·cases hf
structure Fau where
 at_ : Int
 rule : Int
deriving Inhabited, DecidableEq
def nearB (s : Spt) (g : Int) (o : Spt) : Bool := decide (turnV o.angle s.angle < g)
def keepL (x : TrkV) (may g : Int) (l : List Spt) : Nat → List Spt → Fau
 | _, [] => ⟨-1, 0⟩
 | i, s :: r => if (!(within x.r.blo x.r.bhi [s.height])) = true then ⟨i, 1⟩ else if decide (0 < (((byV x s x.worst).length : Nat) : Int)) = true then ⟨i, 2⟩ else if (l.take i).any (nearB s g) = true then ⟨i, 3⟩ else if decide (may ≤ (i : Int)) = true then ⟨i, 4⟩ else keepL x may g l (i + 1) r
def keepsV (x : TrkV) (l : List Spt) : Fau := keepL x (tapsV x x.worst) (gapV x) l 0 l
def keepsE (t : TreeV) (r : RuleV) (y : Int) (l : List Spt) : Int := if startE t r y ≠ 0 then startE t r y else if decide ((20 : Int) < (l.length : Int)) = true then 5 else if (!(spotsB l)) = true then 3 else 0
def keepsR (t : TreeV) (r : RuleV) (y : Int) (l : List Spt) : Fau := if keepsE t r y l = 0 then keepsV (openV t r y) l else ⟨0, 0⟩
def drillV (t : TreeV) (y : Int) (l : List Spt) : TreeV := { t with holes := t.holes ++ l.map fun s => ⟨y, s.angle, s.height⟩ }
def drillB (t : TreeV) (y : Int) (l : List Spt) : Bool := decide ((((drillV t y l).holes.length : Nat) : Int) ≤ 60)
theorem sub_take {α : Type} [Inhabited α] {enc : α → List DV} {l : List α} {n s : Nat} (h : n ≤ l.length) : ∀ i, i < n - 0 → ∀ j, j < s → Lst enc l (0 + i) j = Lst enc (l.take n) i j := fun i hi j hj => by
 unfold Lst
 have : ix (l.take n) i = ix l i := by
  unfold ix
  rw [List.getD_eq_getElem?_getD, List.getD_eq_getElem?_getD, List.getElem?_take, if_pos (by omega)]
 rw [this, Nat.zero_add]
end Go.Proofs.Ytbpblhmigijkaaa
