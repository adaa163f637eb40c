/- TrunkLess: plain laws; rows of flags. -/
import Derived.Test.YtbpblhmigijkaaaTfh
namespace Go.Proofs.Ytbpblhmigijkaaa
open Go.RowKit
set_option linter.unusedVariables false
def cellsB (f : Nat → Bool) : Nat → Nat → List LV
  | 0, _ => []
  | k + 1, i => LV.v (.bool (f i)) :: cellsB f k (i + 1)
theorem cellsB_at {f : Nat → Bool} : ∀ {k i j : Nat}, j < k → (cellsB f k i)[j]? = some (.v (.bool (f (i + j)))) := by
  intro k
  induction k with
  | zero => intro i j h; omega
  | succ k ih =>
    intro i j h
    cases j with
    | zero => simp [cellsB]
    | succ j =>
      simp only [cellsB, List.getElem?_cons_succ]
      rw [ih (by omega)]
      congr 4
      omega
theorem cellsB_len {f : Nat → Bool} : ∀ {k i : Nat}, (cellsB f k i).length = k := by
  intro k
  induction k with
  | zero => intro i; rfl
  | succ k ih => intro i; simp only [cellsB, List.length_cons, ih]
theorem cellsB_ren {f : Nat → Bool} {ρ : List (Nat × Nat)} : ∀ {k i : Nat}, (cellsB f k i).map (LV.ren ρ) = cellsB f k i := by
  intro k
  induction k with
  | zero => intro i; rfl
  | succ k ih => intro i; simp only [cellsB, List.map_cons, ih]; rfl
def setB (f : Nat → Bool) (k : Nat) (v : Bool) : Nat → Bool := fun i => if i = k then v else f i
theorem cellsB_set {f : Nat → Bool} {v : Bool} : ∀ {k i j : Nat}, j < k → (cellsB f k i).set j (.v (.bool v)) = cellsB (setB f (i + j) v) k i := by
  intro k
  induction k with
  | zero => intro i j h; omega
  | succ k ih =>
    intro i j h
    have hs : ∀ {m p : Nat}, i < p → cellsB (setB f i v) m p = cellsB f m p := by
      intro m
      induction m with
      | zero => intro p _; rfl
      | succ m ihm =>
        intro p hp
        simp only [cellsB]
        rw [ihm (by omega)]
        simp only [setB, if_neg (show p ≠ i by omega)]
    cases j with
    | zero =>
      simp only [cellsB, List.set_cons_zero, Nat.add_zero]
      rw [hs (by omega)]
      simp [setB]
    | succ j =>
      simp only [cellsB, List.set_cons_succ]
      rw [ih (by omega), show i + 1 + j = i + (j + 1) by omega]
      simp only [setB, if_neg (show i ≠ i + (j + 1) by omega)]
def flagsC (f : Nat → Bool) : List LV := cellsB f 3600 0
theorem flags_at {f : Nat → Bool} {k : Nat} (h : k < 3600) : (flagsC f)[k]? = some (.v (.bool (f k))) := by
  have := cellsB_at (f := f) (i := 0) h
  rw [Nat.zero_add] at this
  exact this
theorem flags_len {f : Nat → Bool} {k : Nat} (h : k < 3600) : k < (flagsC f).length := by
  unfold flagsC
  rw [cellsB_len]
  exact h
theorem flags_set {f : Nat → Bool} {v : Bool} {k : Nat} (h : k < 3600) : flagsC (setB f k v) = (flagsC f).set k (.v (.bool v)) := by
  have := cellsB_set (f := f) (v := v) (i := 0) h
  rw [Nat.zero_add] at this
  exact this.symm
theorem flagsC_le {f g : Nat → Bool} {ρ : List (Nat × Nat)} (h : f = g) : flagsC f = (flagsC g).map (LV.ren ρ) := by
  subst h
  exact (cellsB_ren (f := f) (k := 3600) (i := 0) (ρ := ρ)).symm
def FlagOk (q : Int → Bool) (f : Nat → Bool) : Prop := ∀ k : Nat, k < 3600 → f k = q k
theorem flag_none {s : List Rg} : FlagOk (inS (s.take 0)) fun _ => false := fun k _ => by simp [inS]
theorem flag_start {s : List Rg} {f : Nat → Bool} {lo : Int} (h : FlagOk (inS s) f) : FlagOk (inTo s lo lo) f := fun k hk => by
  rw [h k hk]
  unfold inTo
  have : (decide (lo ≤ (k : Int)) && decide ((k : Int) < lo)) = false := by
    rw [Bool.and_eq_false_iff, decide_eq_false_iff_not, decide_eq_false_iff_not]
    omega
  rw [this, Bool.or_false]
theorem flag_step {s : List Rg} {f : Nat → Bool} {lo a : Int} (h : FlagOk (inTo s lo a) f) (h0 : 0 ≤ a) (h1 : lo ≤ a) : FlagOk (inTo s lo (a + 1)) (setB f a.toNat true) := fun k hk => by
  unfold setB
  by_cases e : k = a.toNat
  · rw [if_pos e]
    unfold inTo
    have : (decide (lo ≤ (k : Int)) && decide ((k : Int) < a + 1)) = true := by
      rw [Bool.and_eq_true, decide_eq_true_eq, decide_eq_true_eq]
      omega
    rw [this, Bool.or_true]
  · rw [if_neg e, h k hk]
    unfold inTo
    congr 2
    rw [decide_eq_decide]
    omega
theorem flag_end {l : List Rg} {j : Nat} {f : Nat → Bool} {a : Int} (hj : j < l.length) (h : FlagOk (inTo (l.take j) (ix l j).low a) f) (ha : a = (ix l j).high + 1) : FlagOk (inS (l.take (j + 1))) f := fun k hk => by
  rw [h k hk, take_ix hj, inS_snoc]
  unfold inTo
  congr 2
  rw [decide_eq_decide]
  omega
theorem flag_get {l : List Rg} {f : Nat → Bool} {i : Nat} {a : Int} (h : FlagOk (inS (l.take i)) f) (hi : l.length ≤ i) (h0 : 0 ≤ a) (h1 : a ≤ 3599) : f a.toNat = inS l a := by
  rw [h a.toNat (by omega), List.take_of_length_le hi]
  congr 1
  omega
theorem in_of {l : List Rg} {i : Nat} {a : Int} (hi : i < l.length) (h : (ix l i).low ≤ a ∧ a ≤ (ix l i).high) : inS l a = true := inS_iff.2 ⟨_, ix_mem hi, h⟩
-- what is changed
def wideR (r : RuleV) (b0 b1 b2 : Int) : RuleV := { r with shi := min 5000 (r.shi + b0), uhi := min 5000 (r.uhi + b1), hhi := min 100 (r.hhi + b2), hlo := max 0 (r.hlo - b2) }
def moreT (t : TreeV) (b3 : Int) : TreeV := { t with glo := max 1 (t.glo - b3), ghi := min 10000 (t.ghi + b3) }
def holeT (t : TreeV) (b0 b1 b2 : Int) : TreeV := { t with holes := t.holes ++ [⟨b0, 14 * b1, 15 * b2⟩] }
def stillT (t : TreeV) : TreeV := { t with wlo := 0, whi := 0 }
theorem wide_start {t : TreeV} {r : RuleV} {y b0 b1 b2 b3 : Int} (h : startE t r y = 0) (h0 : 0 ≤ b0 ∧ b0 < 256) (h1 : 0 ≤ b1 ∧ b1 < 256) (h2 : 0 ≤ b2 ∧ b2 < 256) (h3 : 0 ≤ b3 ∧ b3 < 256) : startE (moreT t b3) (wideR r b0 b1 b2) y = 0 := by
  obtain ⟨k1, k2, k3⟩ := startE_0.1 h
  have q1 := k1.girth
  have q2 := k2.side
  have q3 := k2.up
  have q4 := k2.heal
  refine startE_0.2 ⟨⟨k1.year, ?_, k1.grow, k1.health, k1.len, k1.hole⟩, ⟨?_, ?_, ?_, k2.apart, k2.between, k2.len, k2.n0, k2.n1, k2.n2, k2.n3, k2.n4, k2.opn, k2.sizes⟩, k3⟩
  · simp only [moreT]; omega
  · simp only [wideR]; omega
  · simp only [wideR]; omega
  · simp only [wideR]; omega
theorem hole_start {t : TreeV} {r : RuleV} {y b0 b1 b2 : Int} (h : startE t r y = 0) (hl : t.holes.length < 60) (h0 : 0 ≤ b0 ∧ b0 < 256) (h1 : 0 ≤ b1 ∧ b1 < 256) (h2 : 0 ≤ b2 ∧ b2 < 256) : startE (holeT t b0 b1 b2) r y = 0 := by
  obtain ⟨k1, k2, k3⟩ := startE_0.1 h
  refine startE_0.2 ⟨⟨k1.year, k1.girth, k1.grow, k1.health, ?_, fun q hq => ?_⟩, k2, k3⟩
  · simp only [holeT, List.length_append, List.length_cons, List.length_nil]; omega
  · rcases List.mem_append.1 hq with hq | hq
    · exact k1.hole q hq
    · rw [List.mem_singleton.1 hq]
      exact ⟨by simp only; omega, by simp only; omega, by simp only; omega⟩
theorem still_start {t : TreeV} {r : RuleV} {y : Int} (h : startE t r y = 0) : startE (stillT t) r y = 0 := by
  obtain ⟨k1, k2, k3⟩ := startE_0.1 h
  exact startE_0.2 ⟨⟨k1.year, k1.girth, ⟨Int.le_refl 0, Int.le_refl 0, show (0 : Int) ≤ 10000 by decide⟩, k1.health, k1.len, k1.hole⟩, k2, k3⟩
theorem still_half {t : TreeV} {r : RuleV} {y : Int} (h : startE t r y = 0) : startE (stillT t) r ((stillT t).year + (y - (stillT t).year) / 2) = 0 := by
  obtain ⟨k1, k2, k3⟩ := startE_0.1 (still_start h)
  exact startE_0.2 ⟨k1, k2, by omega⟩
theorem free_less {x x' : TrkV} (hx : TrkOk x) (hx' : TrkOk x') {e : Int} (h : ∀ q a, q ∈ x.t.holes → 0 ≤ a ∧ a ≤ 3599 → forbidsV x.year q ⟨a, e⟩ x.worst = true → q ∈ x'.t.holes ∧ forbidsV x'.year q ⟨a, e⟩ x'.worst = true) : ∀ a, inS (freeV x' e) a = true → inS (freeV x e) a = true := fun a ha => by
  have hb := inS_bd (free_ok hx' e) ha
  rw [free_iff hx' hb] at ha
  rw [free_iff hx hb]
  intro q hq
  cases hf : forbidsV x.year q ⟨a, e⟩ x.worst with
  | false => rfl
  | true =>
    obtain ⟨h1, h2⟩ := h q a hq hb hf
    rw [ha q h1] at h2
    cases h2
theorem wide_girth {t : TreeV} {y b3 : Int} (ht : TreeOk t) (hb : 0 ≤ b3) : (girthV (moreT t b3) y).low ≤ (girthV t y).low ∧ (girthV t y).high ≤ (girthV (moreT t b3) y).high := by
  have h1 := ht.girth
  have e1 : (moreT t b3).wlo * (y - (moreT t b3).year) = t.wlo * (y - t.year) := rfl
  have e2 : (moreT t b3).whi * (y - (moreT t b3).year) = t.whi * (y - t.year) := rfl
  have e3 : (moreT t b3).glo = max 1 (t.glo - b3) := rfl
  have e4 : (moreT t b3).ghi = min 10000 (t.ghi + b3) := rfl
  simp only [girthV, endV]
  rw [e1, e2, e3, e4]
  omega
theorem less_wide {t : TreeV} {r : RuleV} {y e b0 b1 b2 b3 : Int} (h : startE t r y = 0) (h0 : 0 ≤ b0 ∧ b0 < 256) (h1 : 0 ≤ b1 ∧ b1 < 256) (h2 : 0 ≤ b2 ∧ b2 < 256) (h3 : 0 ≤ b3 ∧ b3 < 256) : ∀ a, inS (freeV (openV (moreT t b3) (wideR r b0 b1 b2) y) e) a = true → inS (freeV (openV t r y) e) a = true := by
  obtain ⟨k1, k2, k3⟩ := startE_0.1 h
  have q2 := k2.side
  have q3 := k2.up
  have q4 := k2.heal
  have hg := wide_girth (y := y) k1 h3.1
  refine free_less (open_ok h) (open_ok (wide_start h h0 h1 h2 h3)) fun q a hq ha hf => ⟨hq, ?_⟩
  refine forb_mono (u := (openV t r y).worst) (v := (openV (moreT t b3) (wideR r b0 b1 b2) y).worst) (turn_nn (k1.hole q hq).2.1 ha) hg.1 ?_ ?_ ?_ hf
  · simp only [openV, wideR]; omega
  · simp only [openV, wideR]; omega
  · simp only [openV, wideR]; omega
theorem less_hole {t : TreeV} {r : RuleV} {y e b0 b1 b2 : Int} (h : startE t r y = 0) (hl : t.holes.length < 60) (h0 : 0 ≤ b0 ∧ b0 < 256) (h1 : 0 ≤ b1 ∧ b1 < 256) (h2 : 0 ≤ b2 ∧ b2 < 256) : ∀ a, inS (freeV (openV (holeT t b0 b1 b2) r y) e) a = true → inS (freeV (openV t r y) e) a = true :=
  free_less (open_ok h) (open_ok (hole_start h hl h0 h1 h2)) fun q a hq ha hf => ⟨List.mem_append_left _ hq, hf⟩
theorem still_girth {t : TreeV} {y : Int} : girthV (stillT t) y = ⟨min 10000 t.glo, min 10000 t.ghi⟩ := by
  simp [girthV, endV, stillT]
theorem less_year {t : TreeV} {r : RuleV} {y e : Int} (h : startE t r y = 0) : ∀ a, inS (freeV (openV (stillT t) r ((stillT t).year + (y - (stillT t).year) / 2)) e) a = true → inS (freeV (openV (stillT t) r y) e) a = true := by
  obtain ⟨k1, k2, k3⟩ := startE_0.1 (still_start h)
  refine free_less (open_ok (still_start h)) (open_ok (still_half h)) fun q a hq ha hf => ⟨hq, ?_⟩
  rw [forb_iff] at hf ⊢
  obtain ⟨f1, f2, f3⟩ := hf
  have f1 : y - q.year < r.hhi := of_decide_eq_true f1
  refine ⟨decide_eq_true (show (stillT t).year + (y - (stillT t).year) / 2 - q.year < r.hhi by omega), f2, ?_⟩
  have e : ∀ z, (openV (stillT t) r z).worst = ⟨min 10000 t.glo, r.shi, r.uhi, r.hhi⟩ := fun z => by simp only [openV, still_girth]
  rw [e] at f3 ⊢
  exact f3
-- how many taps
theorem sizeV_bd {g : Int} : ∀ {l : List Siz} {k : Int}, (∀ s, s ∈ l → SizeOk s) → 0 ≤ k ∧ k ≤ 20 → 0 ≤ sizeV g k l ∧ sizeV g k l ≤ 20 := by
  intro l
  induction l with
  | nil => intro k _ h; exact h
  | cons s l ih =>
    intro k h1 h2
    have hs := (h1 s List.mem_cons_self).2
    exact ih (fun q hq => h1 q (List.mem_cons_of_mem _ hq)) (by split <;> omega)
theorem sizeV_mono {g g' : Int} (hg : g ≤ g') : ∀ {l : List Siz} {G K k k' : Int}, sizesB G K l = true → k ≤ k' → k' ≤ K → sizeV g k l ≤ sizeV g' k' l := by
  intro l
  induction l with
  | nil => intro G K k k' _ h _; exact h
  | cons s l ih =>
    intro G K k k' h h1 h2
    unfold sizesB at h
    simp only [Bool.and_eq_true, within1] at h
    simp only [sizeV]
    refine ih h.2.2 ?_ ?_
    · split <;> split <;> omega
    · split <;> omega
theorem openN_mono {y : Int} {u v : Tru} (hv : u.heal ≤ v.heal) : ∀ {l : List Hol} {k k' : Int}, k ≤ k' → openN y v k l ≤ openN y u k' l := by
  intro l
  induction l with
  | nil => intro k k' h; exact h
  | cons q l ih =>
    intro k k' h
    simp only [openN]
    refine ih ?_
    have : countsV y q u = true → countsV y q v = true := fun h => decide_eq_true (by have := of_decide_eq_true h; omega)
    cases h1 : countsV y q u with
    | false => cases countsV y q v <;> simp <;> omega
    | true => rw [this h1]; simp; omega
theorem healV_bd {r : RuleV} (hr : RuleOk r) (k : Int) : 0 ≤ healV r k ∧ healV r k ≤ 20 := by
  unfold healV
  have h0 := hr.n0
  have h1 := hr.n1
  have h2 := hr.n2
  have h3 := hr.n3
  have h4 := hr.n4
  repeat' split
  all_goals omega
theorem taps_bd {x : TrkV} (hx : TrkOk x) (u : Tru) : 0 ≤ tapsV x u ∧ tapsV x u ≤ 20 := by
  have h1 := sizeV_bd (g := u.girth) (k := 0) (sizesB_ok (Int.le_refl 0) (Int.le_refl 0) hx.r.sizes) (by omega)
  have h2 := healV_bd hx.r x.t.health
  unfold tapsV
  omega
theorem taps_mono {x x' : TrkV} (hx : TrkOk x) (he1 : x'.r.sizes = x.r.sizes) (he2 : healV x'.r x'.t.health = healV x.r x.t.health) (he3 : x'.r.opn = x.r.opn) (he4 : x'.t.holes = x.t.holes) (he5 : x'.year = x.year) {u v : Tru} (hg : v.girth ≤ u.girth) (hh : u.heal ≤ v.heal) : tapsV x' v ≤ tapsV x u := by
  have h1 := sizeV_mono hg (k := 0) (k' := 0) hx.r.sizes (Int.le_refl 0) (Int.le_refl 0)
  have h2 := openN_mono (y := x.year) hh (l := x.t.holes) (Int.le_refl x.r.opn)
  unfold tapsV
  rw [he1, he2, he3, he4, he5]
  omega
theorem taps_wide {t : TreeV} {r : RuleV} {y b0 b1 b2 b3 : Int} (h : startE t r y = 0) (h0 : 0 ≤ b0 ∧ b0 < 256) (h1 : 0 ≤ b1 ∧ b1 < 256) (h2 : 0 ≤ b2 ∧ b2 < 256) (h3 : 0 ≤ b3 ∧ b3 < 256) :
    tapsV (openV (moreT t b3) (wideR r b0 b1 b2) y) (openV (moreT t b3) (wideR r b0 b1 b2) y).worst ≤ tapsV (openV t r y) (openV t r y).worst ∧ tapsV (openV t r y) (openV t r y).best ≤ tapsV (openV (moreT t b3) (wideR r b0 b1 b2) y) (openV (moreT t b3) (wideR r b0 b1 b2) y).best ∧ tapsV (openV t r y) (openV t r y).worst ≤ tapsV (openV t r y) (openV t r y).best := by
  obtain ⟨k1, k2, k3⟩ := startE_0.1 h
  have q4 := k2.heal
  have hg := wide_girth (y := y) k1 h3.1
  have hgb := girth_bd k1 k3
  refine ⟨taps_mono (open_ok h) rfl rfl rfl rfl rfl hg.1 ?_, taps_mono (open_ok (wide_start h h0 h1 h2 h3)) rfl rfl rfl rfl rfl hg.2 ?_, taps_mono (open_ok h) rfl rfl rfl rfl rfl hgb.2.1 q4.2.1⟩
  · simp only [openV, wideR]; omega
  · simp only [openV, wideR]; omega
theorem tapsR_s {t : TreeV} {r : RuleV} {y : Int} (h : startE t r y = 0) : tapsR t r y = ⟨tapsV (openV t r y) (openV t r y).worst, tapsV (openV t r y) (openV t r y).best⟩ := by unfold tapsR; rw [if_pos h]
end Go.Proofs.Ytbpblhmigijkaaa
