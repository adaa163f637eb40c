/- Trunk: the data, and what its functions come to, in plain Lean. -/
import Derived.Test.YtbpblhmigijkaaaA27
import Derived.Test.YtbpblhmigijkaaaA32
import Derived.Test.YtbpblhmigijkaaaProg
namespace Go.Proofs.Ytbpblhmigijkaaa
open Go.RowKit
set_option linter.unusedVariables false
def cellsI (n : Nat → Int) : Nat → Nat → List LV → List LV
 | 0, _, tl => tl
 | k + 1, i, tl => LV.i (n i) :: cellsI n k (i + 1) tl
theorem cellsI_at {n : Nat → Int} {tl : List LV} : ∀ {k i j : Nat}, j < k → (cellsI n k i tl)[j]? = some (.i (n (i + j))) := by
 intro k
 induction k with
 | zero => intro i j h; omega
 | succ k ih =>
  intro i j h
  cases j with
  | zero => simp [cellsI]
  | succ j =>
   simp only [cellsI, List.getElem?_cons_succ]
   rw [ih (by omega)]
   congr 3
   omega
theorem cellsI_tl {n : Nat → Int} {tl : List LV} : ∀ {k i j : Nat}, (cellsI n k i tl)[k + j]? = tl[j]? := by
 intro k
 induction k with
 | zero => intro i j; simp [cellsI]
 | succ k ih =>
  intro i j
  rw [show k + 1 + j = (k + j) + 1 by omega]
  simp only [cellsI, List.getElem?_cons_succ]
  exact ih
theorem cellsI_len {n : Nat → Int} {tl : List LV} : ∀ {k i : Nat}, (cellsI n k i tl).length = k + tl.length := by
 intro k
 induction k with
 | zero => intro i; simp [cellsI]
 | succ k ih => intro i; simp only [cellsI, List.length_cons, ih]; omega
theorem cellsI_ren {n : Nat → Int} {tl : List LV} {ρ : List (Nat × Nat)} : ∀ {k i : Nat}, (cellsI n k i tl).map (LV.ren ρ) = cellsI n k i (tl.map (LV.ren ρ)) := by
 intro k
 induction k with
 | zero => intro i; rfl
 | succ k ih => intro i; simp only [cellsI, List.map_cons, ih]; rfl
def setF (n : Nat → Int) (k : Nat) (v : Int) : Nat → Int := fun i => if i = k then v else n i
theorem cellsI_set {n : Nat → Int} {tl : List LV} {v : Int} : ∀ {k i j : Nat}, j < k → (cellsI n k i tl).set j (.i v) = cellsI (setF n (i + j) v) k i tl := by
 intro k
 induction k with
 | zero => intro i j h; omega
 | succ k ih =>
  intro i j h
  have hs : ∀ {m p : Nat}, i < p → cellsI (setF n i v) m p tl = cellsI n m p tl := by
   intro m
   induction m with
   | zero => intro p _; rfl
   | succ m ihm =>
    intro p hp
    simp only [cellsI]
    rw [ihm (by omega)]
    simp only [setF, if_neg (show p ≠ i by omega)]
  cases j with
  | zero =>
   simp only [cellsI, List.set_cons_zero, Nat.add_zero]
   rw [hs (by omega)]
   simp [setF]
  | succ j =>
   simp only [cellsI, List.set_cons_succ]
   rw [ih (by omega), show i + 1 + j = i + (j + 1) by omega]
   simp only [setF, if_neg (show i ≠ i + (j + 1) by omega)]
def roomC (n : Nat → Int) (g : Int) : List LV := cellsI n 3601 0 [.i g]
theorem room_at {n : Nat → Int} {g : Int} {k : Nat} (h : k < 3601) : (roomC n g)[k]? = some (.i (n k)) := by
 have := cellsI_at (n := n) (tl := [.i g]) (i := 0) h
 rw [Nat.zero_add] at this
 exact this
theorem room_gap {n : Nat → Int} {g : Int} : (roomC n g)[3601]? = some (.i g) := cellsI_tl (n := n) (tl := [.i g]) (k := 3601) (i := 0) (j := 0)
theorem room_len {n : Nat → Int} {g : Int} {k : Nat} (h : k < 3601) : k < (roomC n g).length := by
 unfold roomC
 rw [cellsI_len]
 simp; omega
theorem room_set {n : Nat → Int} {g v : Int} {k : Nat} (h : k < 3601) : roomC (setF n k v) g = (roomC n g).set k (.i v) := by
 have := cellsI_set (n := n) (tl := [.i g]) (v := v) (i := 0) h
 rw [Nat.zero_add] at this
 exact this.symm
theorem roomC_le {n n2 : Nat → Int} {g g2 : Int} {ρ : List (Nat × Nat)} (h : n = n2) (h2 : g = g2) : roomC n g = (roomC n2 g2).map (LV.ren ρ) := by
 subst h h2
 exact (cellsI_ren (n := n) (tl := [.i g]) (k := 3601) (i := 0) (ρ := ρ)).symm
def fromV (n : Nat → Int) (a : Int) : Int := n (min a 3600).toNat
def nextOk (n : Nat → Int) : Prop := ∀ i : Nat, i ≤ 3600 → (i : Int) ≤ n i ∧ n i ≤ 7200
theorem fromV_le {n : Nat → Int} (h : nextOk n) {a : Int} (h0 : 0 ≤ a) : min a 3600 ≤ fromV n a ∧ fromV n a ≤ 7200 := by
 have := h (min a 3600).toNat (by omega)
 unfold fromV
 omega
def rowL (n : Nat → Int) (g first : Int) : Nat → Int → List Int
 | 0, _ => []
 | k + 1, a => if a = first ∨ (a ≤ first + 3600 - g ∧ a < 3600) then a :: rowL n g first k (fromV n (a + g)) else []
def rowV (n : Nat → Int) (g first : Int) : List Int := rowL n g first 3601 first
def firstsL (n : Nat → Int) : Nat → Int → List Int
 | 0, _ => []
 | k + 1, a => if a < 3600 then a :: firstsL n k (fromV n (a + 1)) else []
def firstsV (n : Nat → Int) : List Int := firstsL n 3601 (fromV n 0)
def mostS (n : Nat → Int) (g : Int) (m first : Int) : Int := max m ((rowV n g first).length : Int)
def mostV (n : Nat → Int) (g : Int) : Int := (firstsV n).foldl (mostS n g) 0
theorem rowL_cons {n : Nat → Int} {g first a : Int} {k : Nat} (hk : 0 < k) (h : a = first ∨ (a ≤ first + 3600 - g ∧ a < 3600)) : rowL n g first k a = a :: rowL n g first (k - 1) (fromV n (a + g)) := by
 obtain ⟨j, rfl⟩ : ∃ j, k = j + 1 := ⟨k - 1, by omega⟩
 simp only [rowL, if_pos h, Nat.add_sub_cancel]
theorem rowL_stop {n : Nat → Int} {g first a : Int} {k : Nat} (h : ¬ (a = first ∨ (a ≤ first + 3600 - g ∧ a < 3600))) : rowL n g first k a = [] := by
 cases k with
 | zero => rfl
 | succ k => simp only [rowL, if_neg h]
theorem firstsL_cons {n : Nat → Int} {a : Int} {k : Nat} (hk : 0 < k) (h : a < 3600) : firstsL n k a = a :: firstsL n (k - 1) (fromV n (a + 1)) := by
 obtain ⟨j, rfl⟩ : ∃ j, k = j + 1 := ⟨k - 1, by omega⟩
 simp only [firstsL, if_pos h, Nat.add_sub_cancel]
theorem firstsL_stop {n : Nat → Int} {a : Int} {k : Nat} (h : ¬ a < 3600) : firstsL n k a = [] := by
 cases k with
 | zero => rfl
 | succ k => simp only [firstsL, if_neg h]
structure Hol where
 year : Int
 angle : Int
 height : Int
deriving Inhabited, DecidableEq
structure Siz where
 girth : Int
 taps : Int
deriving Inhabited, DecidableEq
structure Spt where
 angle : Int
 height : Int
deriving Inhabited, DecidableEq
structure Rg where
 low : Int
 high : Int
deriving Inhabited, DecidableEq
structure Tru where
 girth : Int
 side : Int
 up : Int
 heal : Int
deriving Inhabited, DecidableEq
structure TreeV where
 year : Int
 glo : Int
 ghi : Int
 wlo : Int
 whi : Int
 health : Int
 holes : List Hol
deriving Inhabited
structure RuleV where
 slo : Int
 shi : Int
 ulo : Int
 uhi : Int
 hlo : Int
 hhi : Int
 apart : Int
 blo : Int
 bhi : Int
 sizes : List Siz
 n0 : Int
 n1 : Int
 n2 : Int
 n3 : Int
 n4 : Int
 opn : Int
deriving Inhabited
def eH (h : Hol) : List DV := [.i h.year, .i h.angle, .i h.height]
def eZ (s : Siz) : List DV := [.i s.girth, .i s.taps]
def eS (s : Spt) : List DV := [.i s.angle, .i s.height]
def eG (r : Rg) : List DV := [.i r.low, .i r.high]
theorem plain_eH (x : Hol) (j : Nat) (hj : j < 3) : ∃ v, (eH x).getD j default = .v v := by
 match j, hj with
 | 0, _ => exact ⟨_, rfl⟩
 | 1, _ => exact ⟨_, rfl⟩
 | 2, _ => exact ⟨_, rfl⟩
theorem plain_eZ (x : Siz) (j : Nat) (hj : j < 2) : ∃ v, (eZ x).getD j default = .v v := by
 match j, hj with
 | 0, _ => exact ⟨_, rfl⟩
 | 1, _ => exact ⟨_, rfl⟩
theorem plain_eS (x : Spt) (j : Nat) (hj : j < 2) : ∃ v, (eS x).getD j default = .v v := by
 match j, hj with
 | 0, _ => exact ⟨_, rfl⟩
 | 1, _ => exact ⟨_, rfl⟩
theorem plain_eG (x : Rg) (j : Nat) (hj : j < 2) : ∃ v, (eG x).getD j default = .v v := by
 match j, hj with
 | 0, _ => exact ⟨_, rfl⟩
 | 1, _ => exact ⟨_, rfl⟩
def findI {α : Type} (p : α → Bool) : List α → Int
 | [] => -1
 | x :: r => if p x then 0 else if findI p r < 0 then -1 else findI p r + 1
theorem findI_at {α : Type} [Inhabited α] {p : α → Bool} : ∀ {l : List α} {i : Nat}, (∀ j, j < i → p (ix l j) = false) → i < l.length → p (ix l i) = true → (i : Int) = findI p l := by
 intro l
 induction l with
 | nil => intro i _ h; simp at h
 | cons x l ih =>
  intro i hp hi h
  cases i with
  | zero =>
   have : p x = true := h
   simp [findI, this]
  | succ i =>
   have h0 : p x = false := hp 0 (by omega)
   have := ih (i := i) (fun j hj => hp (j + 1) (by omega)) (by simpa using hi) h
   simp only [findI, h0, ← this]
   simp
   omega
theorem findI_no {α : Type} [Inhabited α] {p : α → Bool} : ∀ {l : List α} {i : Nat}, (∀ j, j < i → p (ix l j) = false) → l.length ≤ i → (-1 : Int) = findI p l := by
 intro l
 induction l with
 | nil => intro i _ _; rfl
 | cons x l ih =>
  intro i hp hi
  have h0 : p x = false := hp 0 (by simp at hi; omega)
  have := ih (i := i - 1) (fun j hj => hp (j + 1) (by omega)) (by simp at hi; omega)
  simp only [findI, h0, ← this]
  simp
theorem findI_any {α : Type} {p : α → Bool} : ∀ {l : List α}, decide (0 ≤ findI p l) = l.any p := by
 intro l
 induction l with
 | nil => rfl
 | cons x l ih =>
  cases h : p x with
  | true => simp [findI, h]
  | false =>
   simp only [findI, h, List.any_cons, Bool.false_or, ← ih]
   by_cases h2 : findI p l < 0
   ·simp [h2]
   ·simp [h2]; omega
theorem all_snoc {α : Type} [Inhabited α] {p : α → Bool} {l : List α} {i : Nat} (h : ∀ j, j < i → p (ix l j) = false) (h1 : p (ix l i) = false) : ∀ j, j < i + 1 → p (ix l j) = false := fun j hj => by
 by_cases e : j = i
 ·rw [e]; exact h1
 ·exact h j (by omega)
def outB (lo hi x : Int) : Bool := decide (x < lo) || decide (hi < x)
def within (lo hi : Int) (l : List Int) : Bool := !(l.any (outB lo hi))
def rangeB (a b lo hi : Int) : Bool := decide (a ≤ b) && within lo hi [a, b]
def spotOut (s : Spt) : Bool := !(within 0 3599 [s.angle]) || !(within 0 5000 [s.height])
def spotsB (l : List Spt) : Bool := !(l.any spotOut)
def holeOut (h : Hol) : Bool := !(within 0 9999 [h.year]) || !(spotsB [⟨h.angle, h.height⟩])
def treeB (t : TreeV) : Bool := within 0 9999 [t.year] && (rangeB t.glo t.ghi 1 10000 && (rangeB t.wlo t.whi 0 10000 && (within 0 4 [t.health] && (!decide ((60 : Int) < (t.holes.length : Int)) && !(t.holes.any holeOut)))))
def treeE (t : TreeV) : Int := if treeB t then 0 else 2
def sizesB : Int → Int → List Siz → Bool
 | _, _, [] => true
 | g, k, s :: r => within (g + 1) 10000 [s.girth] && (within k 20 [s.taps] && sizesB s.girth s.taps r)
def ruleB (r : RuleV) : Bool := rangeB r.slo r.shi 0 5000 && (rangeB r.ulo r.uhi 0 5000 && (rangeB r.hlo r.hhi 0 100 && (within 1 5000 [r.apart] && (rangeB r.blo r.bhi 0 5000 && (!decide ((10 : Int) < (r.sizes.length : Int)) && (within 0 20 [r.n0, r.n1, r.n2, r.n3, r.n4] && (within 0 60 [r.opn] && sizesB 0 0 r.sizes)))))))
def ruleE (r : RuleV) : Int := if ruleB r then 0 else 2
theorem outB_false {lo hi x : Int} : outB lo hi x = false ↔ lo ≤ x ∧ x ≤ hi := by
 unfold outB
 rw [Bool.or_eq_false_iff, decide_eq_false_iff_not, decide_eq_false_iff_not]
 omega
theorem within_iff {lo hi : Int} {l : List Int} : within lo hi l = true ↔ ∀ x, x ∈ l → lo ≤ x ∧ x ≤ hi := by
 unfold within
 rw [Bool.not_eq_true', List.any_eq_false]
 constructor
 ·intro h x hx
  have := h x hx
  exact outB_false.1 (by simpa using this)
 ·intro h x hx
  have := outB_false.2 (h x hx)
  simp [this]
theorem within1 {lo hi x : Int} : within lo hi [x] = true ↔ lo ≤ x ∧ x ≤ hi := by
 rw [within_iff]
 exact ⟨fun h => h x (by simp), fun h y hy => by rw [List.mem_singleton.1 hy]; exact h⟩
theorem within2 {lo hi x y : Int} : within lo hi [x, y] = true ↔ (lo ≤ x ∧ x ≤ hi) ∧ (lo ≤ y ∧ y ≤ hi) := by
 rw [within_iff]
 constructor
 ·intro h; exact ⟨h x (by simp), h y (by simp)⟩
 ·intro h z hz
  rcases List.mem_cons.1 hz with rfl | hz
  ·exact h.1
  ·rw [List.mem_singleton.1 hz]; exact h.2
theorem rangeB_iff {a b lo hi : Int} : rangeB a b lo hi = true ↔ lo ≤ a ∧ a ≤ b ∧ b ≤ hi := by
 unfold rangeB
 rw [Bool.and_eq_true, within2, decide_eq_true_eq]
 omega
theorem spotOut_false {s : Spt} : spotOut s = false ↔ (0 ≤ s.angle ∧ s.angle ≤ 3599) ∧ (0 ≤ s.height ∧ s.height ≤ 5000) := by
 unfold spotOut
 rw [Bool.or_eq_false_iff, Bool.not_eq_false', Bool.not_eq_false', within1, within1]
theorem spotsB_iff {l : List Spt} : spotsB l = true ↔ ∀ s, s ∈ l → (0 ≤ s.angle ∧ s.angle ≤ 3599) ∧ (0 ≤ s.height ∧ s.height ≤ 5000) := by
 unfold spotsB
 rw [Bool.not_eq_true', List.any_eq_false]
 constructor
 ·intro h x hx
  exact spotOut_false.1 (by simpa using h x hx)
 ·intro h x hx
  simp [spotOut_false.2 (h x hx)]
def holeOk (h : Hol) : Prop := (0 ≤ h.year ∧ h.year ≤ 9999) ∧ (0 ≤ h.angle ∧ h.angle ≤ 3599) ∧ (0 ≤ h.height ∧ h.height ≤ 5000)
theorem holeOut_false {h : Hol} : holeOut h = false ↔ holeOk h := by
 unfold holeOut
 rw [Bool.or_eq_false_iff, Bool.not_eq_false', Bool.not_eq_false', within1, spotsB_iff]
 constructor
 ·intro ⟨h1, h2⟩; exact ⟨h1, h2 ⟨h.angle, h.height⟩ (by simp)⟩
 ·intro ⟨h1, h2⟩
  exact ⟨h1, fun s hs => by rw [List.mem_singleton.1 hs]; exact h2⟩
structure TreeOk (t : TreeV) : Prop where
 year : 0 ≤ t.year ∧ t.year ≤ 9999
 girth : 1 ≤ t.glo ∧ t.glo ≤ t.ghi ∧ t.ghi ≤ 10000
 grow : 0 ≤ t.wlo ∧ t.wlo ≤ t.whi ∧ t.whi ≤ 10000
 health : 0 ≤ t.health ∧ t.health ≤ 4
 len : t.holes.length ≤ 60
 hole : ∀ h, h ∈ t.holes → holeOk h
theorem treeB_iff {t : TreeV} : treeB t = true ↔ TreeOk t := by
 unfold treeB
 simp only [Bool.and_eq_true, within1, rangeB_iff, Bool.not_eq_true', decide_eq_false_iff_not, List.any_eq_false]
 constructor
 ·rintro ⟨h1, h2, h3, h4, h5, h6⟩
  exact ⟨h1, h2, h3, h4, by omega, fun h hh => holeOut_false.1 (by simpa using h6 h hh)⟩
 ·intro h
  exact ⟨h.year, h.girth, h.grow, h.health, by have := h.len; omega, fun x hx => by simp [holeOut_false.2 (h.hole x hx)]⟩
theorem drop_ix {α : Type} [Inhabited α] {l : List α} {i : Nat} (h : i < l.length) : l.drop i = ix l i :: l.drop (i + 1) := by
 rw [List.drop_eq_getElem_cons h]
 congr 1
 unfold ix
 rw [List.getD_eq_getElem?_getD, List.getElem?_eq_getElem h]
 rfl
theorem ix_mem {α : Type} [Inhabited α] {l : List α} {i : Nat} (h : i < l.length) : ix l i ∈ l := by
 unfold ix
 rw [List.getD_eq_getElem?_getD, List.getElem?_eq_getElem h]
 exact List.getElem_mem h
structure RuleOk (r : RuleV) : Prop where
 side : 0 ≤ r.slo ∧ r.slo ≤ r.shi ∧ r.shi ≤ 5000
 up : 0 ≤ r.ulo ∧ r.ulo ≤ r.uhi ∧ r.uhi ≤ 5000
 heal : 0 ≤ r.hlo ∧ r.hlo ≤ r.hhi ∧ r.hhi ≤ 100
 apart : 1 ≤ r.apart ∧ r.apart ≤ 5000
 between : 0 ≤ r.blo ∧ r.blo ≤ r.bhi ∧ r.bhi ≤ 5000
 len : r.sizes.length ≤ 10
 n0 : 0 ≤ r.n0 ∧ r.n0 ≤ 20
 n1 : 0 ≤ r.n1 ∧ r.n1 ≤ 20
 n2 : 0 ≤ r.n2 ∧ r.n2 ≤ 20
 n3 : 0 ≤ r.n3 ∧ r.n3 ≤ 20
 n4 : 0 ≤ r.n4 ∧ r.n4 ≤ 20
 opn : 0 ≤ r.opn ∧ r.opn ≤ 60
 sizes : sizesB 0 0 r.sizes = true
theorem ruleB_iff {r : RuleV} : ruleB r = true ↔ RuleOk r := by
 unfold ruleB
 simp only [Bool.and_eq_true, rangeB_iff, within_iff, Bool.not_eq_true', decide_eq_false_iff_not]
 constructor
 ·rintro ⟨h1, h2, h3, h4, h5, h6, h7, h8, h9⟩
  exact ⟨h1, h2, h3, h4 _ (by simp), h5, by omega, h7 _ (by simp), h7 _ (by simp), h7 _ (by simp), h7 _ (by simp), h7 _ (by simp), h8 _ (by simp), h9⟩
 ·intro h
  refine ⟨h.side, h.up, h.heal, fun x hx => ?_, h.between, by have := h.len; omega, fun x hx => ?_, fun x hx => ?_, h.sizes⟩
  ·rw [List.mem_singleton.1 hx]; exact h.apart
  ·simp only [List.mem_cons, List.not_mem_nil, or_false] at hx
   rcases hx with rfl | rfl | rfl | rfl | rfl
   ·exact h.n0
   ·exact h.n1
   ·exact h.n2
   ·exact h.n3
   ·exact h.n4
  ·rw [List.mem_singleton.1 hx]; exact h.opn
def yearE (t : TreeV) (y : Int) : Int := if within t.year 9999 [y] then 0 else 3
theorem yearE_0 {t : TreeV} {y : Int} : yearE t y = 0 ↔ t.year ≤ y ∧ y ≤ 9999 := by
 unfold yearE
 rw [← within1]
 cases within t.year 9999 [y] <;> simp
def endV (t : TreeV) (y now grow : Int) : Int := min 10000 (now + grow * (y - t.year))
def girthV (t : TreeV) (y : Int) : Rg := ⟨endV t y t.glo t.wlo, endV t y t.ghi t.whi⟩
def girthE (t : TreeV) (y : Int) : Int := if treeE t ≠ 0 then treeE t else yearE t y
def girthR (t : TreeV) (y : Int) : Rg := if girthE t y = 0 then girthV t y else ⟨0, 0⟩
def startE (t : TreeV) (r : RuleV) (y : Int) : Int := if treeE t ≠ 0 then treeE t else if ruleE r ≠ 0 then ruleE r else yearE t y
structure TrkV where
 t : TreeV
 r : RuleV
 year : Int
 worst : Tru
 best : Tru
deriving Inhabited
def openV (t : TreeV) (r : RuleV) (y : Int) : TrkV := ⟨t, r, y, ⟨(girthV t y).low, r.shi, r.uhi, r.hhi⟩, ⟨(girthV t y).high, r.slo, r.ulo, r.hlo⟩⟩
structure TruOk (x : Tru) : Prop where
 girth : 1 ≤ x.girth ∧ x.girth ≤ 10000
 side : 0 ≤ x.side ∧ x.side ≤ 5000
 up : 0 ≤ x.up ∧ x.up ≤ 5000
 heal : 0 ≤ x.heal ∧ x.heal ≤ 100
structure TrkOk (x : TrkV) : Prop where
 t : TreeOk x.t
 r : RuleOk x.r
 year : x.t.year ≤ x.year ∧ x.year ≤ 9999
 worst : TruOk x.worst
 best : TruOk x.best
theorem treeE_0 {t : TreeV} : treeE t = 0 ↔ TreeOk t := by
 unfold treeE
 rw [← treeB_iff]
 cases treeB t <;> simp
theorem ruleE_0 {r : RuleV} : ruleE r = 0 ↔ RuleOk r := by
 unfold ruleE
 rw [← ruleB_iff]
 cases ruleB r <;> simp
theorem startE_0 {t : TreeV} {r : RuleV} {y : Int} : startE t r y = 0 ↔ TreeOk t ∧ RuleOk r ∧ t.year ≤ y ∧ y ≤ 9999 := by
 unfold startE
 rw [← treeE_0, ← ruleE_0, ← yearE_0]
 by_cases h1 : treeE t = 0
 ·by_cases h2 : ruleE r = 0
  ·simp [h1, h2]
  ·simp [h1, h2]
 ·simp [h1]
theorem girthE_0 {t : TreeV} {y : Int} : girthE t y = 0 ↔ TreeOk t ∧ t.year ≤ y ∧ y ≤ 9999 := by
 unfold girthE
 rw [← treeE_0, ← yearE_0]
 by_cases h1 : treeE t = 0
 ·simp [h1]
 ·simp [h1]
theorem mul_bd {a b A B : Int} (ha : 0 ≤ a ∧ a ≤ A) (hb : 0 ≤ b ∧ b ≤ B) : 0 ≤ a * b ∧ a * b ≤ A * B := ⟨Int.mul_nonneg ha.1 hb.1, Int.mul_le_mul ha.2 hb.2 hb.1 (by omega)⟩
theorem girth_bd {t : TreeV} {y : Int} (h : TreeOk t) (hy : t.year ≤ y ∧ y ≤ 9999) : 1 ≤ (girthV t y).low ∧ (girthV t y).low ≤ (girthV t y).high ∧ (girthV t y).high ≤ 10000 := by
 have h1 := h.girth
 have h2 := h.grow
 have h3 := h.year
 have e1 := mul_bd (a := t.wlo) (A := 10000) (b := y - t.year) (B := 9999) (by omega) (by omega)
 have e2 : t.wlo * (y - t.year) ≤ t.whi * (y - t.year) := Int.mul_le_mul_of_nonneg_right h2.2.1 (by omega)
 simp only [girthV, endV]
 omega
theorem open_ok {t : TreeV} {r : RuleV} {y : Int} (h : startE t r y = 0) : TrkOk (openV t r y) := by
 obtain ⟨h1, h2, h3⟩ := startE_0.1 h
 have hg := girth_bd h1 h3
 have s := h2.side
 have u := h2.up
 have l := h2.heal
 exact ⟨h1, h2, h3, ⟨⟨hg.1, by simp only [openV]; omega⟩, by simp only [openV]; omega, by simp only [openV]; omega, by simp only [openV]; omega⟩, ⟨by simp only [openV]; omega, by simp only [openV]; omega, by simp only [openV]; omega, by simp only [openV]; omega⟩⟩
def turnV (a b : Int) : Int := min (max (a - b) (b - a)) (3600 - max (a - b) (b - a))
def countsV (y : Int) (h : Hol) (x : Tru) : Bool := decide (y - h.year < x.heal)
def levelV (x : Tru) (h : Hol) (e : Int) : Bool := decide (max (h.height - e) (e - h.height) < x.up)
def forbidsV (y : Int) (h : Hol) (s : Spt) (x : Tru) : Bool := countsV y h x && (levelV x h s.height && decide (turnV h.angle s.angle * x.girth < 3600 * x.side))
def sizeV (g : Int) : Int → List Siz → Int
 | k, [] => k
 | k, s :: r => sizeV g (if s.girth ≤ g then s.taps else k) r
def openN (y : Int) (x : Tru) : Int → List Hol → Int
 | k, [] => k
 | k, h :: r => openN y x (if countsV y h x then k - 1 else k) r
def healV (r : RuleV) (k : Int) : Int := if k = 0 then r.n0 else if k = 1 then r.n1 else if k = 2 then r.n2 else if k = 3 then r.n3 else r.n4
def tapsV (x : TrkV) (u : Tru) : Int := min (min (sizeV u.girth 0 x.r.sizes) (healV x.r x.t.health)) (max 0 (openN x.year u x.r.opn x.t.holes))
def tapsR (t : TreeV) (r : RuleV) (y : Int) : Rg := if startE t r y = 0 then ⟨tapsV (openV t r y) (openV t r y).worst, tapsV (openV t r y) (openV t r y).best⟩ else ⟨0, 0⟩
def byL (y : Int) (s : Spt) (x : Tru) : Nat → List Hol → List Int
 | _, [] => []
 | i, h :: r => if forbidsV y h s x then (i : Int) :: byL y s x (i + 1) r else byL y s x (i + 1) r
def byV (x : TrkV) (s : Spt) (u : Tru) : List Int := byL x.year s u 0 x.t.holes
theorem ix3 {a b c : Int} (ha : a = 0) (hb : b = 0) (hc : c = 0) (i : Nat) : ix [a, b, c] i = 0 := by
 subst ha hb hc
 match i with
 | 0 => rfl
 | 1 => rfl
 | 2 => rfl
 | n + 3 => rfl
theorem all0_snoc {l : List Int} {i : Nat} (h : ∀ j, j < i → ix l j = 0) (h1 : ix l i = 0) : ∀ j, j < i + 1 → ix l j = 0 := fun j hj => by
 by_cases e : j = i
 ·rw [e]; exact h1
 ·exact h j (by omega)
theorem start_all {t : TreeV} {r : RuleV} {y : Int} (h : ∀ j, j < 3 → ix [treeE t, ruleE r, yearE t y] j = 0) : startE t r y = 0 := by
 have h0 : treeE t = 0 := h 0 (by omega)
 have h1 : ruleE r = 0 := h 1 (by omega)
 have h2 : yearE t y = 0 := h 2 (by omega)
 simp [startE, h0, h1, h2]
theorem start_at {t : TreeV} {r : RuleV} {y : Int} {i : Nat} (h : ∀ j, j < i → ix [treeE t, ruleE r, yearE t y] j = 0) (hi : i < 3) (hn : ix [treeE t, ruleE r, yearE t y] i ≠ 0) : ix [treeE t, ruleE r, yearE t y] i = startE t r y := by
 match i, hi with
 | 0, _ =>
  have h0 : treeE t ≠ 0 := hn
  show treeE t = _
  simp [startE, h0]
 | 1, _ =>
  have h0 : treeE t = 0 := h 0 (by omega)
  have h1 : ruleE r ≠ 0 := hn
  show ruleE r = _
  simp [startE, h0, h1]
 | 2, _ =>
  have h0 : treeE t = 0 := h 0 (by omega)
  have h1 : ruleE r = 0 := h 1 (by omega)
  show yearE t y = _
  simp [startE, h0, h1]
theorem turn_bd {a b : Int} (ha : 0 ≤ a ∧ a ≤ 3599) (hb : 0 ≤ b ∧ b ≤ 3599) : 0 ≤ turnV a b ∧ turnV a b ≤ 3600 := by
 unfold turnV
 omega
theorem turn_mul {a b g : Int} (ha : 0 ≤ a ∧ a ≤ 3599) (hb : 0 ≤ b ∧ b ≤ 3599) (hg : 1 ≤ g ∧ g ≤ 10000) : 0 ≤ turnV a b * g ∧ turnV a b * g ≤ 36000000 :=
 mul_bd (A := 3600) (B := 10000) (turn_bd ha hb) ⟨by omega, hg.2⟩
end Go.Proofs.Ytbpblhmigijkaaa
