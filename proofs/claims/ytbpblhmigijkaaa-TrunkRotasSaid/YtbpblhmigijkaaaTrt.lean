/- Rotas: plain laws. -/
import Derived.Test.YtbpblhmigijkaaaTrm
import Derived.Test.YtbpblhmigijkaaaTvf
namespace Go.Proofs.Ytbpblhmigijkaaa
open Go.RowKit
set_option linter.unusedVariables false
def rotB (x : TrkV) (m e : Int) : Bool := (anglesO (nextV x e) (gapV x) m).isSome && (decide ((keepsV x (spotsL x e m)).at_ = -1) && decide ((keepsV x (spotsL x e m)).rule = 0))
def lastL (x : TrkV) (m : Int) (hs : List Int) (i : Nat) : List Spt := if i = 0 then [] else spotsL x (ix hs (i - 1)) m
def foundL (x : TrkV) (m : Int) (hs : List Int) : List Spt := if 0 ≤ findI (rotB x m) hs then spotsL x (ix hs (findI (rotB x m) hs).toNat) m else lastL x m hs hs.length
def rotL (r : RuleV) (m : Int) (hs : List Int) (y : Int) : Nat → TreeV → Nat → List (List Spt) → List (List Spt) × Int × Int
 | 0, _, _, pl => (pl, 0, 0)
 | k + 1, t, i, pl => if hs.any (rotB (openV t r (y + i)) m) = true then (if drillB t (y + i) (foundL (openV t r (y + i)) m hs) = true then rotL r m hs y k (drillV t (y + i) (foundL (openV t r (y + i)) m hs)) (i + 1) (pl ++ [foundL (openV t r (y + i)) m hs]) else ([], (i : Int), 8)) else ([], (i : Int), 7)
def rotE (t : TreeV) (r : RuleV) (y m : Int) (hs : List Int) (ys : Int) : Int := if startE t r y ≠ 0 then startE t r y else if (decide ((20 : Int) < (hs.length : Int)) || decide (40 < ys)) = true then 5 else if (!(within 0 5000 hs) || (!(within 0 20 [m]) || (decide (ys < 0) || decide (9999 < y + ys - 1)))) = true then 3 else 0
def rotR (t : TreeV) (r : RuleV) (y m : Int) (hs : List Int) (ys : Int) : List (List Spt) × Int × Int := if rotE t r y m hs ys ≠ 0 then ([], 0, rotE t r y m hs ys) else rotL r m hs y ys.toNat t 0 []
section
variable {t : TreeV} {r : RuleV} {y m ys : Int} {hs : List Int}
theorem rotR_1 (h : startE t r y ≠ 0) : rotR t r y m hs ys = ([], 0, startE t r y) := by
 have e : rotE t r y m hs ys = startE t r y := by unfold rotE; rw [if_pos h]
 unfold rotR
 rw [e, if_pos h]
theorem rotR_2 (h : startE t r y = 0) (h2 : (decide ((20 : Int) < (hs.length : Int)) || decide (40 < ys)) = true) : rotR t r y m hs ys = ([], 0, 5) := by
 have e : rotE t r y m hs ys = 5 := by unfold rotE; rw [if_neg (by omega), if_pos h2]
 unfold rotR
 rw [e, if_pos (by decide)]
theorem rotR_3 (h : startE t r y = 0) (h2 : (decide ((20 : Int) < (hs.length : Int)) || decide (40 < ys)) = false) (h3 : (!(within 0 5000 hs) || (!(within 0 20 [m]) || (decide (ys < 0) || decide (9999 < y + ys - 1)))) = true) : rotR t r y m hs ys = ([], 0, 3) := by
 have e : rotE t r y m hs ys = 3 := by unfold rotE; rw [if_neg (by omega), if_neg (by rw [h2]; exact Bool.false_ne_true), if_pos h3]
 unfold rotR
 rw [e, if_pos (by decide)]
theorem rotR_4 (h : startE t r y = 0) (h2 : (decide ((20 : Int) < (hs.length : Int)) || decide (40 < ys)) = false) (h3 : (!(within 0 5000 hs) || (!(within 0 20 [m]) || (decide (ys < 0) || decide (9999 < y + ys - 1)))) = false) : rotE t r y m hs ys = 0 ∧ rotR t r y m hs ys = rotL r m hs y ys.toNat t 0 [] := by
 have e : rotE t r y m hs ys = 0 := by unfold rotE; rw [if_neg (by omega), if_neg (by rw [h2]; exact Bool.false_ne_true), if_neg (by rw [h3]; exact Bool.false_ne_true)]
 refine ⟨e, ?_⟩
 unfold rotR
 rw [if_neg (by rw [e]; decide)]
theorem rotE_0 (h : rotE t r y m hs ys = 0) : startE t r y = 0 ∧ hs.length ≤ 20 ∧ (∀ e, e ∈ hs → 0 ≤ e ∧ e ≤ 5000) ∧ (0 ≤ m ∧ m ≤ 20) ∧ (0 ≤ ys ∧ ys ≤ 40) ∧ y + ys - 1 ≤ 9999 := by
 unfold rotE at h
 split at h
 ·rename_i h0; exact absurd h h0
 ·rename_i h0
  split at h
  ·cases h
  ·rename_i h1
   split at h
   ·cases h
   ·rename_i h2
    simp only [Bool.not_eq_true, Bool.or_eq_false_iff, decide_eq_false_iff_not, Bool.not_eq_false'] at h1 h2
    exact ⟨by omega, by omega, within_iff.1 h2.1, within1.1 h2.2.1, by omega, by omega⟩
theorem rotR_0 (h : rotE t r y m hs ys = 0) : rotR t r y m hs ys = rotL r m hs y ys.toNat t 0 [] := by
 unfold rotR
 rw [if_neg (by rw [h]; decide)]
theorem rotR_bad (h : rotE t r y m hs ys ≠ 0) : rotR t r y m hs ys = ([], 0, rotE t r y m hs ys) := by
 unfold rotR
 rw [if_pos h]
variable {pl : List (List Spt)} {k i : Nat}
theorem rotL_n (h : hs.any (rotB (openV t r (y + i)) m) = false) : rotL r m hs y (k + 1) t i pl = ([], (i : Int), 7) := by
 unfold rotL
 rw [if_neg (by rw [h]; exact Bool.false_ne_true)]
theorem rotL_f (h : hs.any (rotB (openV t r (y + i)) m) = true) (hd : drillB t (y + i) (foundL (openV t r (y + i)) m hs) = false) : rotL r m hs y (k + 1) t i pl = ([], (i : Int), 8) := by
 unfold rotL
 rw [if_pos h, if_neg (by rw [hd]; exact Bool.false_ne_true)]
theorem rotL_s (h : hs.any (rotB (openV t r (y + i)) m) = true) (hd : drillB t (y + i) (foundL (openV t r (y + i)) m hs) = true) : rotL r m hs y (k + 1) t i pl = rotL r m hs y k (drillV t (y + i) (foundL (openV t r (y + i)) m hs)) (i + 1) (pl ++ [foundL (openV t r (y + i)) m hs]) := by
 conv => lhs; unfold rotL
 rw [if_pos h, if_pos hd]
end
theorem last_next {x : TrkV} {m : Int} {hs : List Int} {i : Nat} : lastL x m hs (i + 1) = spotsL x (ix hs i) m := by
 unfold lastL
 rw [if_neg (by omega), Nat.add_sub_cancel]
theorem found_at {x : TrkV} {m : Int} {hs : List Int} {i : Nat} (h : ∀ j, j < i → rotB x m (ix hs j) = false) (hi : i < hs.length) (h1 : rotB x m (ix hs i) = true) : foundL x m hs = spotsL x (ix hs i) m := by
 have := findI_at h hi h1
 unfold foundL
 rw [← this, if_pos (by omega)]
 congr 2
theorem found_no {x : TrkV} {m : Int} {hs : List Int} {i : Nat} (h : ∀ j, j < i → rotB x m (ix hs j) = false) (hi : hs.length ≤ i) (hl : i ≤ hs.length) : foundL x m hs = lastL x m hs i := by
 have := findI_no h hi
 unfold foundL
 rw [← this, if_neg (by decide), show i = hs.length by omega]
theorem found_ok {x : TrkV} {m : Int} {hs : List Int} (h : hs.any (rotB x m) = true) : ∃ e, e ∈ hs ∧ rotB x m e = true ∧ foundL x m hs = spotsL x e m := by
 rw [← findI_any, decide_eq_true_eq] at h
 have key : ∀ (l : List Int), 0 ≤ findI (rotB x m) l → (findI (rotB x m) l).toNat < l.length ∧ rotB x m (ix l (findI (rotB x m) l).toNat) = true := by
  intro l
  induction l with
  | nil => intro h; simp [findI] at h
  | cons a l ih =>
   intro h
   unfold findI at h ⊢
   by_cases h1 : rotB x m a = true
   ·rw [if_pos h1]
    exact ⟨by simp, h1⟩
   ·rw [if_neg h1] at h ⊢
    by_cases h2 : findI (rotB x m) l < 0
    ·rw [if_pos h2] at h; omega
    ·rw [if_neg h2]
     obtain ⟨q1, q2⟩ := ih (by omega)
     rw [show (findI (rotB x m) l + 1).toNat = (findI (rotB x m) l).toNat + 1 by omega]
     exact ⟨by simpa using q1, q2⟩
 obtain ⟨k1, k2⟩ := key hs h
 refine ⟨_, ix_mem k1, k2, ?_⟩
 unfold foundL
 rw [if_pos h]
theorem rotB_spots {x : TrkV} (hx : TrkOk x) {m e : Int} (hm : 0 ≤ m) (h : rotB x m e = true) : SpotsOk x e m (spotsL x e m) ∧ keepsV x (spotsL x e m) = ⟨-1, 0⟩ := by
 unfold rotB at h
 rw [Bool.and_eq_true, Bool.and_eq_true, decide_eq_true_eq, decide_eq_true_eq] at h
 refine ⟨spotsL_ok hx hm h.1, ?_⟩
 cases hk : keepsV x (spotsL x e m) with
 | mk a b =>
  rw [hk] at h
  simp only at h
  rw [h.2.1, h.2.2]
theorem spotsOk_B {x : TrkV} {e m : Int} {l : List Spt} (h : SpotsOk x e m l) (he : 0 ≤ e ∧ e ≤ 5000) : ∀ q, q ∈ l → (0 ≤ q.angle ∧ q.angle ≤ 3599) ∧ (0 ≤ q.height ∧ q.height ≤ 5000) := fun q hq => by
 obtain ⟨j, hj, rfl⟩ := mem_ix hq
 have := h.ok j hj
 omega
theorem spotsL_none {x : TrkV} {e m : Int} (h : (anglesO (nextV x e) (gapV x) m).isSome = false) : spotsL x e m = [] := by
 unfold spotsL
 cases hA : anglesO (nextV x e) (gapV x) m with
 | none => rfl
 | some l => rw [hA] at h; cases h
theorem spotsL_B {x : TrkV} (hx : TrkOk x) {e m : Int} (hm : 0 ≤ m) (he : 0 ≤ e ∧ e ≤ 5000) : ∀ q, q ∈ spotsL x e m → (0 ≤ q.angle ∧ q.angle ≤ 3599) ∧ (0 ≤ q.height ∧ q.height ≤ 5000) := by
 cases h : (anglesO (nextV x e) (gapV x) m).isSome with
 | false => rw [spotsL_none h]; intro q hq; cases hq
 | true => exact spotsOk_B (spotsL_ok hx hm h) he
theorem spotsL_len {x : TrkV} (hx : TrkOk x) {e m : Int} (hm : 0 ≤ m) : (((spotsL x e m).length : Nat) : Int) ≤ m := by
 cases h : (anglesO (nextV x e) (gapV x) m).isSome with
 | false => rw [spotsL_none h]; simpa using hm
 | true => exact Int.le_of_eq (spotsL_ok hx hm h).len
theorem found_B {x : TrkV} (hx : TrkOk x) {m : Int} {hs : List Int} (hm : 0 ≤ m) (hh : ∀ e, e ∈ hs → 0 ≤ e ∧ e ≤ 5000) (h : hs.any (rotB x m) = true) : spotsB (foundL x m hs) = true ∧ (((foundL x m hs).length : Nat) : Int) = m ∧ keepsV x (foundL x m hs) = ⟨-1, 0⟩ := by
 obtain ⟨e, he, hb, hf⟩ := found_ok h
 obtain ⟨h1, h2⟩ := rotB_spots hx hm hb
 rw [hf]
 exact ⟨spotsB_iff.2 (spotsOk_B h1 (hh e he)), h1.len, h2⟩
end Go.Proofs.Ytbpblhmigijkaaa
