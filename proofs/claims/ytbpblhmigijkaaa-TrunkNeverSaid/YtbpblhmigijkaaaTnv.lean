/- TrunkNever: plain laws. -/
import Derived.Test.YtbpblhmigijkaaaTrt
namespace Go.Proofs.Ytbpblhmigijkaaa
open Go.RowKit
set_option linter.unusedVariables false
def GoodK (x : TrkV) (may g : Int) (l : List Spt) (j : Nat) : Prop := ((!(within x.r.blo x.r.bhi [(ix l j).height])) = false ∧ decide (0 < (((byV x (ix l j) x.worst).length : Nat) : Int)) = false) ∧ (l.take j).any (nearB (ix l j) g) = false ∧ decide (may ≤ ((j : Nat) : Int)) = false
theorem keepL_skip {x : TrkV} {may g : Int} {l : List Spt} {i : Nat} : ∀ {k : Nat}, i ≤ k → k ≤ l.length → (∀ j, i ≤ j → j < k → GoodK x may g l j) → keepL x may g l i (l.drop i) = keepL x may g l k (l.drop k) := by
  intro k
  induction k with
  | zero => 
    intro h _ _
    obtain rfl : i = 0 := by omega
    rfl
  | succ k ih =>
    intro h h1 h2
    by_cases e : i = k + 1
    · rw [e]
    · rw [ih (by omega) (by omega) fun j a b => h2 j a (by omega), drop_ix (l := l) (i := k) (by omega)]
      obtain ⟨⟨g1, g2⟩, g3, g4⟩ := h2 k (by omega) (by omega)
      exact keepL_f5 g1 g2 g3 g4
theorem keepL_all {x : TrkV} {may g : Int} {l : List Spt} (h : ∀ j, j < l.length → GoodK x may g l j) : keepL x may g l 0 l = ⟨-1, 0⟩ := by
  have := keepL_skip (x := x) (may := may) (g := g) (l := l) (i := 0) (k := l.length) (Nat.zero_le _) (Nat.le_refl _) fun j _ hj => h j hj
  rw [List.drop_zero, List.drop_eq_nil_of_le (Nat.le_refl _)] at this
  exact this
theorem keepL_good {x : TrkV} {may g : Int} {l : List Spt} : ∀ {n i : Nat}, l.length - i = n → keepL x may g l i (l.drop i) = ⟨-1, 0⟩ → ∀ j, i ≤ j → j < l.length → GoodK x may g l j := by
  intro n
  induction n with
  | zero => intro i h _ j h1 h2; omega
  | succ n ih =>
    intro i h hk j h1 h2
    rw [drop_ix (l := l) (i := i) (by omega)] at hk
    have hne : ∀ {c : Int}, (⟨((i : Nat) : Int), c⟩ : Fau) = ⟨-1, 0⟩ → False := fun e => by
      have := congrArg Fau.at_ e
      simp only at this
      omega
    cases q1 : (!(within x.r.blo x.r.bhi [(ix l i).height])) with
    | true => rw [keepL_f1 q1] at hk; exact (hne hk).elim
    | false =>
      cases q2 : decide (0 < (((byV x (ix l i) x.worst).length : Nat) : Int)) with
      | true => rw [keepL_f2 q1 q2] at hk; exact (hne hk).elim
      | false =>
        cases q3 : (l.take i).any (nearB (ix l i) g) with
        | true => rw [keepL_f3 q1 q2 q3] at hk; exact (hne hk).elim
        | false =>
          cases q4 : decide (may ≤ ((i : Nat) : Int)) with
          | true => rw [keepL_f4 q1 q2 q3 q4] at hk; exact (hne hk).elim
          | false =>
            rw [keepL_f5 q1 q2 q3 q4] at hk
            by_cases e : j = i
            · rw [e]; exact ⟨⟨q1, q2⟩, q3, q4⟩
            · exact ih (i := i + 1) (by omega) hk j (by omega) h2
theorem keepsV_good {x : TrkV} {l : List Spt} (h : keepsV x l = ⟨-1, 0⟩) : ∀ j, j < l.length → GoodK x (tapsV x x.worst) (gapV x) l j := fun j hj =>
  keepL_good (i := 0) rfl (by rw [List.drop_zero]; exact h) j (Nat.zero_le _) hj
theorem good_take {x : TrkV} {may g : Int} {l : List Spt} {n j : Nat} (hj : j < n) (h : GoodK x may g l j) : GoodK x may g (l.take n) j := by
  unfold GoodK
  rw [ix_takeT hj, List.take_take, show min j n = j by omega]
  exact h
theorem keeps_take {x : TrkV} {l : List Spt} {n : Nat} (h : keepsV x l = ⟨-1, 0⟩) : keepsV x (l.take n) = ⟨-1, 0⟩ :=
  keepL_all fun j hj => good_take (by rw [List.length_take] at hj; omega) (keepsV_good h j (by rw [List.length_take] at hj; omega))
theorem keeps_twice {x : TrkV} (hx : TrkOk x) {l : List Spt} (h : keepsV x l = ⟨-1, 0⟩) (h0 : 0 < l.length) : keepsV x (l ++ [⟨(ix l 0).angle, (ix l 0).height⟩]) = ⟨((l.length : Nat) : Int), 3⟩ := by
  have hg := keepsV_good h
  have e0 : (⟨(ix l 0).angle, (ix l 0).height⟩ : Spt) = ix l 0 := rfl
  rw [e0]
  have hixl : ∀ j, j < l.length → ix (l ++ [ix l 0]) j = ix l j := fun j hj => ix_app1 hj
  have htk : ∀ j, j ≤ l.length → (l ++ [ix l 0]).take j = l.take j := fun j hj => by rw [List.take_append_of_le_length hj]
  have hG : ∀ j, 0 ≤ j → j < l.length → GoodK x (tapsV x x.worst) (gapV x) (l ++ [ix l 0]) j := fun j _ hj => by
    unfold GoodK
    rw [hixl j hj, htk j (by omega)]
    exact hg j hj
  have hs := keepL_skip (x := x) (may := tapsV x x.worst) (g := gapV x) (l := l ++ [ix l 0]) (i := 0) (k := l.length) (Nat.zero_le _) (by simp) hG
  rw [List.drop_zero] at hs
  unfold keepsV
  rw [hs, List.drop_left']
  · obtain ⟨⟨g1, g2⟩, _, _⟩ := hg 0 h0
    refine keepL_f3 g1 g2 ?_
    rw [htk _ (Nat.le_refl _), List.take_length]
    rw [List.any_eq_true]
    refine ⟨ix l 0, ix_mem h0, ?_⟩
    unfold nearB
    refine decide_eq_true ?_
    have := (gap_bd hx).1
    unfold turnV
    omega
  · rfl
-- what was drilled
def afterT (y : Int) : TreeV → Nat → List (List Spt) → TreeV
  | t, _, [] => t
  | t, i, l :: p => afterT y (drillV t (y + i) l) (i + 1) p
def PlanOk (r : RuleV) (m y : Int) : TreeV → Nat → List (List Spt) → Prop
  | _, _, [] => True
  | t, i, l :: p => ((startE t r (y + i) = 0 ∧ spotsB l = true) ∧ ((l.length : Nat) : Int) = m ∧ keepsV (openV t r (y + i)) l = ⟨-1, 0⟩ ∧ drillB t (y + i) l = true) ∧ PlanOk r m y (drillV t (y + i) l) (i + 1) p
def RotEnd (r : RuleV) (m : Int) (hs : List Int) (y : Int) (k : Nat) (t : TreeV) (i : Nat) (pl q : List (List Spt)) : Prop :=
  (rotL r m hs y k t i pl = (pl ++ q, 0, 0) ∧ q.length = k) ∨ (q.length < k ∧ (rotL r m hs y k t i pl = ([], ((i + q.length : Nat) : Int), 8) ∨ (rotL r m hs y k t i pl = ([], ((i + q.length : Nat) : Int), 7) ∧ startE (afterT y t i q) r (y + ((i + q.length : Nat) : Int)) = 0 ∧ hs.any (rotB (openV (afterT y t i q) r (y + ((i + q.length : Nat) : Int))) m) = false)))
theorem rot_spec {r : RuleV} {m y : Int} {hs : List Int} (hm : 0 ≤ m ∧ m ≤ 20) (hh : ∀ e, e ∈ hs → 0 ≤ e ∧ e ≤ 5000) : ∀ {k : Nat} {t : TreeV} {i : Nat} {pl : List (List Spt)}, (0 < k → startE t r (y + i) = 0) → y + i + k - 1 ≤ 9999 →
    ∃ q, PlanOk r m y t i q ∧ RotEnd r m hs y k t i pl q ∧ rotL r m hs y q.length t i pl = (pl ++ q, 0, 0) := by
  intro k
  induction k with
  | zero => intro t i pl _ _; exact ⟨[], trivial, .inl ⟨by rw [List.append_nil]; rfl, rfl⟩, by rw [List.append_nil]; rfl⟩
  | succ k ih =>
    intro t i pl hst hy
    have h0 := hst (by omega)
    cases ha : hs.any (rotB (openV t r (y + i)) m) with
    | false => exact ⟨[], trivial, .inr ⟨by simp, .inr ⟨rotL_n ha, h0, ha⟩⟩, by rw [List.append_nil]; rfl⟩
    | true =>
      cases hd : drillB t (y + i) (foundL (openV t r (y + i)) m hs) with
      | false => exact ⟨[], trivial, .inr ⟨by simp, .inl (rotL_f ha hd)⟩, by rw [List.append_nil]; rfl⟩
      | true =>
        obtain ⟨f1, f2, f3⟩ := found_B (open_ok h0) hm.1 hh ha
        have hnext : 0 < k → startE (drillV t (y + i) (foundL (openV t r (y + i)) m hs)) r (y + ((i + 1 : Nat) : Int)) = 0 := fun hk => by
          have := drill_start h0 f1 hd (by omega)
          rw [show y + ((i + 1 : Nat) : Int) = y + ((i : Nat) : Int) + 1 by omega]
          exact this
        obtain ⟨q, q1, q2, q3⟩ := ih (t := drillV t (y + i) (foundL (openV t r (y + i)) m hs)) (i := i + 1) (pl := pl ++ [foundL (openV t r (y + i)) m hs]) hnext (by omega)
        have ea : ∀ z : List (List Spt), pl ++ [foundL (openV t r (y + i)) m hs] ++ z = pl ++ foundL (openV t r (y + i)) m hs :: z := fun z => by simp
        have el : (foundL (openV t r (y + i)) m hs :: q).length = q.length + 1 := rfl
        have ei : i + (q.length + 1) = i + 1 + q.length := by omega
        refine ⟨foundL (openV t r (y + i)) m hs :: q, ⟨⟨⟨h0, f1⟩, f2, f3, hd⟩, q1⟩, ?_, ?_⟩
        · unfold RotEnd at q2 ⊢
          rw [el, ei, rotL_s ha hd]
          rcases q2 with ⟨a1, a2⟩ | ⟨a1, a2 | ⟨a2, a3, a4⟩⟩
          · exact .inl ⟨by rw [a1, ea], by omega⟩
          · exact .inr ⟨by omega, .inl a2⟩
          · exact .inr ⟨by omega, .inr ⟨a2, a3, a4⟩⟩
        · rw [el, rotL_s ha hd, q3, ea]
theorem plan_step {r : RuleV} {m y : Int} {t : TreeV} {q : List (List Spt)} {i : Nat} (h : PlanOk r m y t i (q.drop i)) (hi : i < q.length) : ((startE t r (y + i) = 0 ∧ spotsB (ix q i) = true) ∧ (((ix q i).length : Nat) : Int) = m ∧ keepsV (openV t r (y + i)) (ix q i) = ⟨-1, 0⟩ ∧ drillB t (y + i) (ix q i) = true) ∧ PlanOk r m y (drillV t (y + i) (ix q i)) (i + 1) (q.drop (i + 1)) ∧ afterT y t i (q.drop i) = afterT y (drillV t (y + i) (ix q i)) (i + 1) (q.drop (i + 1)) := by
  rw [drop_ix hi] at h ⊢
  exact ⟨h.1, h.2, rfl⟩
theorem plan_verL {r : RuleV} {m y : Int} : ∀ {q : List (List Spt)} {t : TreeV} {i : Nat}, PlanOk r m y t i q → verL r y t i q = (-1, 0, 0, 0) ∧ (∀ l, l ∈ q → spotsB l = true ∧ ((l.length : Nat) : Int) = m) := by
  intro q
  induction q with
  | nil => intro t i _; exact ⟨rfl, fun l hl => (by cases hl)⟩
  | cons l q ih =>
    intro t i h
    obtain ⟨⟨⟨h1, h2⟩, h3, h4, h5⟩, h6⟩ := h
    obtain ⟨i1, i2⟩ := ih h6
    refine ⟨?_, fun z hz => ?_⟩
    · rw [verL_f3 (by rw [h4]; decide) h5]
      exact i1
    · rcases List.mem_cons.1 hz with rfl | hz
      · exact ⟨h2, h3⟩
      · exact i2 z hz
theorem plan_ver {t : TreeV} {r : RuleV} {m y : Int} {q : List (List Spt)} (h0 : startE t r y = 0) (hm : m ≤ 20) (hq : q.length ≤ 40) (hy : y + ((q.length : Nat) : Int) - 1 ≤ 9999) (h : PlanOk r m y t 0 q) : verR t r y q = (-1, 0, 0, 0) ∧ shortP 20 q := by
  obtain ⟨h1, h2⟩ := plan_verL h
  have hsh : shortP 20 q := fun l hl => by have := (h2 l hl).2; omega
  have hl : anyLong q = false := by
    unfold anyLong
    rw [List.any_eq_false]
    intro l hl
    have := hsh l hl
    unfold longB
    simp only [decide_eq_true_eq]
    omega
  obtain ⟨_, e⟩ := verR_4 h0 (by rw [hl, Bool.or_false]; exact decide_eq_false (by omega)) (by rw [decide_eq_false (show ¬ 9999 < y + ((q.length : Nat) : Int) - 1 by omega), spots_flat.2 fun l hl => (h2 l hl).1]; rfl)
  exact ⟨by rw [e, h1], hsh⟩
section
variable {t : TreeV} {r : RuleV} {y m ys : Int} {hs : List Int}
theorem rot_err (h0 : startE t r y = 0) (hl : hs.length ≤ 5) (hm : 0 ≤ m ∧ m ≤ 20) (hys : 0 ≤ ys ∧ ys ≤ 12) (hy : y ≤ 9979) : (rotE t r y m hs ys = 3 ∧ rotR t r y m hs ys = ([], 0, 3)) ∨ rotE t r y m hs ys = 0 := by
  cases hw : within 0 5000 hs with
  | false =>
    have e : rotE t r y m hs ys = 3 := by
      unfold rotE
      rw [if_neg (by omega), if_neg, if_pos (by rw [hw]; rfl)]
      rw [decide_eq_false (show ¬ (20 : Int) < ((hs.length : Nat) : Int) by omega), decide_eq_false (show ¬ 40 < ys by omega)]
      decide
    exact .inl ⟨e, by rw [rotR_bad (by omega), e]⟩
  | true =>
    refine .inr ?_
    unfold rotE
    rw [if_neg (by omega), if_neg, if_neg]
    · rw [hw, within1.2 hm, decide_eq_false (show ¬ ys < 0 by omega), decide_eq_false (show ¬ 9999 < y + ys - 1 by omega)]
      decide
    · rw [decide_eq_false (show ¬ (20 : Int) < ((hs.length : Nat) : Int) by omega), decide_eq_false (show ¬ 40 < ys by omega)]
      decide
theorem rot_main (h0 : startE t r y = 0) (hl : hs.length ≤ 5) (hm : 0 ≤ m ∧ m ≤ 20) (hys : 0 ≤ ys ∧ ys ≤ 12) (hy : y ≤ 9979) (hE : rotE t r y m hs ys = 0) : ∃ q, (PlanOk r m y t 0 q ∧ (((q.length : Nat) : Int) ≤ ys ∧ rotR t r y m hs ((q.length : Nat) : Int) = (q, 0, 0))) ∧
    ((rotR t r y m hs ys = (q, 0, 0) ∧ ((q.length : Nat) : Int) = ys) ∨ (((q.length : Nat) : Int) < ys ∧ (rotR t r y m hs ys = ([], ((q.length : Nat) : Int), 8) ∨ (rotR t r y m hs ys = ([], ((q.length : Nat) : Int), 7) ∧ startE (afterT y t 0 q) r (y + ((q.length : Nat) : Int)) = 0 ∧ hs.any (rotB (openV (afterT y t 0 q) r (y + ((q.length : Nat) : Int))) m) = false)))) := by
  obtain ⟨_, _, hh, _, _, _⟩ := rotE_0 hE
  obtain ⟨q, q1, q2, q3⟩ := rot_spec (r := r) (y := y) hm hh (k := ys.toNat) (t := t) (i := 0) (pl := []) (fun _ => by simpa using h0) (by omega)
  rw [List.nil_append] at q3
  have hql : q.length ≤ ys.toNat := by
    rcases q2 with ⟨_, h⟩ | ⟨h, _⟩ <;> omega
  have hE2 : rotE t r y m hs ((q.length : Nat) : Int) = 0 := by
    rcases rot_err (ys := ((q.length : Nat) : Int)) h0 hl hm (by omega) hy with ⟨e, _⟩ | e
    · unfold rotE at e
      rw [if_neg (by omega), if_neg, if_neg] at e
      · cases e
      · rw [within_iff.2 hh, within1.2 hm, decide_eq_false (show ¬ ((q.length : Nat) : Int) < 0 by omega), decide_eq_false (show ¬ 9999 < y + ((q.length : Nat) : Int) - 1 by omega)]
        decide
      · rw [decide_eq_false (show ¬ (20 : Int) < ((hs.length : Nat) : Int) by omega), decide_eq_false (show ¬ (40 : Int) < ((q.length : Nat) : Int) by omega)]
        decide
    · exact e
  refine ⟨q, ⟨q1, by omega, by rw [rotR_0 hE2]; exact q3⟩, ?_⟩
  unfold RotEnd at q2
  rw [rotR_0 hE]
  rcases q2 with ⟨a1, a2⟩ | ⟨a1, a2⟩
  · exact .inl ⟨by rw [a1, List.nil_append], by omega⟩
  · refine .inr ⟨by omega, ?_⟩
    rw [Nat.zero_add] at a2
    exact a2
end
theorem keepsE_ok {t : TreeV} {r : RuleV} {y : Int} {l : List Spt} (h0 : startE t r y = 0) (hl : l.length ≤ 20) (hs : spotsB l = true) : keepsE t r y l = 0 ∧ keepsR t r y l = keepsV (openV t r y) l := by
  have e : keepsE t r y l = 0 := by
    rw [keepsE_2 h0]
    unfold lsE
    rw [if_neg, if_neg]
    · rw [hs]; decide
    · rw [decide_eq_false (by omega)]; decide
  exact ⟨e, keepsR_ok e⟩
theorem spots_take {l : List Spt} {n : Nat} (h : spotsB l = true) : spotsB (l.take n) = true := spotsB_iff.2 fun s hs => spotsB_iff.1 h s (List.mem_of_mem_take hs)
theorem spots_snoc {l : List Spt} (h : spotsB l = true) (h0 : 0 < l.length) : spotsB (l ++ [⟨(ix l 0).angle, (ix l 0).height⟩]) = true := spotsB_iff.2 fun s hs => by
  rcases List.mem_append.1 hs with hs | hs
  · exact spotsB_iff.1 h s hs
  · rw [List.mem_singleton.1 hs]
    exact spotsB_iff.1 h _ (ix_mem h0)
theorem drillE_ok {t : TreeV} {r : RuleV} {y : Int} {l : List Spt} (h0 : startE t r y = 0) (hl : l.length ≤ 20) (hs : spotsB l = true) (hd : drillB t y l = true) : drillE t y l = 0 ∧ drillR t y l = drillV t y l := by
  have e1 : lsE l = 0 := by
    unfold lsE
    rw [if_neg, if_neg]
    · rw [hs]; decide
    · rw [decide_eq_false (by omega)]; decide
  have e : drillE t y l = 0 := by rw [drillE_3 (girthE_s h0) e1, if_pos hd]
  exact ⟨e, drillR_ok e⟩
theorem spotsE_07 {t : TreeV} {r : RuleV} {y e m : Int} (h : startE t r y = 0) (he : 0 ≤ e ∧ e ≤ 5000) (hm : 0 ≤ m ∧ m ≤ 20) : (spotsE t r y e m = 0 ∧ (anglesO (nextV (openV t r y) e) (gapV (openV t r y)) m).isSome = true ∧ spotsR t r y e m = spotsL (openV t r y) e m) ∨ spotsE t r y e m = 7 := by
  cases hs : (anglesO (nextV (openV t r y) e) (gapV (openV t r y)) m).isSome with
  | true => exact .inl ⟨(spots_ok h he hm hs).1, rfl, (spots_ok h he hm hs).2⟩
  | false => exact .inr (spots_no h he hm (by rw [hs]; exact Bool.false_ne_true)).1
theorem no_room {x : TrkV} {m e : Int} {hs : List Int} (h : hs.any (rotB x m) = false) (he : e ∈ hs) (ha : (anglesO (nextV x e) (gapV x) m).isSome = true) : 0 ≤ (keepsV x (spotsL x e m)).at_ := by
  rw [List.any_eq_false] at h
  have := h e he
  unfold rotB at this
  rw [ha, Bool.true_and] at this
  rcases keepsV_cases (x := x) (l := spotsL x e m) with h1 | ⟨h1, _⟩
  · rw [h1] at this
    exact absurd rfl this
  · exact h1
section
variable {t : TreeV} {r : RuleV} {y m ys : Int} {hs : List Int} {q : List (List Spt)}
theorem rot_3 (h0 : startE t r y = 0) (hl : hs.length ≤ 5) (hm : 0 ≤ m ∧ m ≤ 20) (hys : 0 ≤ ys ∧ ys ≤ 12) (hy : y ≤ 9979) (h : (rotR t r y m hs ys).2.2 = 3) : (rotR t r y m hs ys).1.length = 0 := by
  rcases rot_err h0 hl hm hys hy with ⟨_, e⟩ | e
  · rw [e]; rfl
  · obtain ⟨q, _, hc⟩ := rot_main h0 hl hm hys hy e
    rcases hc with ⟨a, _⟩ | ⟨_, a | ⟨a, _⟩⟩
    · rw [a] at h; cases h
    · rw [a]; rfl
    · rw [a]; rfl
theorem rot_not3 (h0 : startE t r y = 0) (hl : hs.length ≤ 5) (hm : 0 ≤ m ∧ m ≤ 20) (hys : 0 ≤ ys ∧ ys ≤ 12) (hy : y ≤ 9979) (h : (rotR t r y m hs ys).2.2 ≠ 3) : rotE t r y m hs ys = 0 := by
  rcases rot_err h0 hl hm hys hy with ⟨_, e⟩ | e
  · rw [e] at h; exact absurd rfl h
  · exact e
def RotCase (t : TreeV) (r : RuleV) (y m ys : Int) (hs : List Int) (q : List (List Spt)) : Prop := (rotR t r y m hs ys = (q, 0, 0) ∧ ((q.length : Nat) : Int) = ys) ∨ (((q.length : Nat) : Int) < ys ∧ (rotR t r y m hs ys = ([], ((q.length : Nat) : Int), 8) ∨ (rotR t r y m hs ys = ([], ((q.length : Nat) : Int), 7) ∧ startE (afterT y t 0 q) r (y + ((q.length : Nat) : Int)) = 0 ∧ hs.any (rotB (openV (afterT y t 0 q) r (y + ((q.length : Nat) : Int))) m) = false)))
theorem rot_c1 (hc : RotCase t r y m ys hs q) (h : (rotR t r y m hs ys).2.2 = 0) : rotR t r y m hs ys = (q, 0, 0) ∧ ((q.length : Nat) : Int) = ys := by
  rcases hc with hc | ⟨_, a | ⟨a, _⟩⟩
  · exact hc
  · rw [a] at h; cases h
  · rw [a] at h; cases h
theorem rot_c2 (hc : RotCase t r y m ys hs q) (h : (rotR t r y m hs ys).2.2 ≠ 0) : ((q.length : Nat) : Int) < ys ∧ (rotR t r y m hs ys).1.length = 0 ∧ (rotR t r y m hs ys).2.1 = ((q.length : Nat) : Int) ∧ ((rotR t r y m hs ys).2.2 = 8 ∨ (rotR t r y m hs ys).2.2 = 7) := by
  rcases hc with ⟨a, _⟩ | ⟨a, b | ⟨b, _⟩⟩
  · rw [a] at h; exact absurd rfl h
  · rw [b]; exact ⟨a, rfl, rfl, .inl rfl⟩
  · rw [b]; exact ⟨a, rfl, rfl, .inr rfl⟩
theorem rot_c7 (hc : RotCase t r y m ys hs q) (h : (rotR t r y m hs ys).2.2 = 7) : (rotR t r y m hs ys).2.1 = ((q.length : Nat) : Int) ∧ startE (afterT y t 0 q) r (y + ((q.length : Nat) : Int)) = 0 ∧ hs.any (rotB (openV (afterT y t 0 q) r (y + ((q.length : Nat) : Int))) m) = false := by
  rcases hc with ⟨a, _⟩ | ⟨_, a | ⟨a, b, c⟩⟩
  · rw [a] at h; cases h
  · rw [a] at h; cases h
  · rw [a]; exact ⟨rfl, b, c⟩
end
theorem spots_0 {t : TreeV} {r : RuleV} {y e m : Int} (h : (spotsE t r y e m = 0 ∧ (anglesO (nextV (openV t r y) e) (gapV (openV t r y)) m).isSome = true ∧ spotsR t r y e m = spotsL (openV t r y) e m) ∨ spotsE t r y e m = 7) (h0 : spotsE t r y e m = 0) : (anglesO (nextV (openV t r y) e) (gapV (openV t r y)) m).isSome = true ∧ spotsR t r y e m = spotsL (openV t r y) e m := by
  rcases h with ⟨_, h⟩ | h
  · exact h
  · omega
theorem drill_count {t : TreeV} {y : Int} {l : List Spt} : (drillV t y l).holes.length = t.holes.length + l.length := by simp [drillV]
end Go.Proofs.Ytbpblhmigijkaaa
