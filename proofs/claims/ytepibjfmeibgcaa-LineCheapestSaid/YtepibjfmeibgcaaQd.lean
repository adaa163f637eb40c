/- LineCheapest: what is enough, and why nothing is cheaper. No program is in sight here. -/
import Derived.Test.YtepibjfmeibgcaaPj
import Derived.Test.YtepibjfmeibgcaaProg
namespace Go.Proofs.Ytepibjfmeibgcaa
set_option linter.unusedVariables false
set_option linter.unusedSectionVars false
/-- Tubing, the first so many nodes of which have other bores. -/
def withP (ps : List Pipe) (bores : List Bor) (l : List Int) (k : Nat) : List Pipe := (List.range ps.length).map fun j => if 0 < j ∧ j ≤ k then { ix ps j with bore := (ix bores (ix l (j - 1)).toNat).size } else ix ps j
theorem withP_len (ps : List Pipe) (bores : List Bor) (l : List Int) (k : Nat) : (withP ps bores l k).length = ps.length := by simp [withP]
theorem withP_at (ps : List Pipe) (bores : List Bor) (l : List Int) (k : Nat) {j : Nat} (h : j < ps.length) : ix (withP ps bores l k) j = if 0 < j ∧ j ≤ k then { ix ps j with bore := (ix bores (ix l (j - 1)).toNat).size } else ix ps j := by
  rw [ix_eq (by rw [withP_len]; exact h)]
  unfold withP
  rw [List.getElem_map, List.getElem_range]
theorem withP_zero (ps : List Pipe) (bores : List Bor) (l : List Int) : withP ps bores l 0 = ps := by
  refine List.ext_getElem (by rw [withP_len]) fun j a b => ?_
  rw [← ix_eq a, ← ix_eq b, withP_at ps bores l 0 b, if_neg (by omega)]
theorem withP_succ (ps : List Pipe) (bores : List Bor) (l : List Int) {k : Nat} (hk : k + 1 < ps.length) : (withP ps bores l k).set (k + 1) { ix (withP ps bores l k) (k + 1) with bore := (ix bores (ix l k).toNat).size } = withP ps bores l (k + 1) := by
  refine List.ext_getElem (by rw [List.length_set, withP_len, withP_len]) fun j a b => ?_
  have hj : j < ps.length := by rw [withP_len] at b; exact b
  rw [List.getElem_set, ← ix_eq b, withP_at ps bores l (k + 1) hj]
  by_cases e : k + 1 = j
  · subst e
    rw [if_pos rfl, if_pos ⟨by omega, Nat.le_refl _⟩, withP_at ps bores l k hj, if_neg (by omega), Nat.add_sub_cancel]
  · rw [if_neg e, ← ix_eq (by rw [withP_len]; exact hj), withP_at ps bores l k hj]
    by_cases e2 : 0 < j ∧ j ≤ k
    · rw [if_pos e2, if_pos ⟨e2.1, by omega⟩]
    · rw [if_neg e2, if_neg (fun h => e2 ⟨h.1, by omega⟩)]
theorem withP_same (ps : List Pipe) (bores : List Bor) (l : List Int) (k : Nat) {j : Nat} (h : j < ps.length) : (ix (withP ps bores l k) j).parent = (ix ps j).parent ∧ (ix (withP ps bores l k) j).length = (ix ps j).length ∧ (ix (withP ps bores l k) j).taps = (ix ps j).taps := by
  rw [withP_at ps bores l k h]
  split <;> exact ⟨rfl, rfl, rfl⟩
theorem withP_par (ps : List Pipe) (bores : List Bor) (l : List Int) (k : Nat) {j : Nat} (h : j < ps.length) : par (withP ps bores l k) j = par ps j := by
  rw [← ix_par, ← ix_par]; exact (withP_same ps bores l k h).1
theorem withP_net {n : Net} (hok : netB n = true) (bores : List Bor) (l : List Int) (hb : ∀ k, k + 1 < n.pipes.length → 4 ≤ (ix bores (ix l k).toNat).size ∧ (ix bores (ix l k).toNat).size ≤ 80) : ∀ k, k < n.pipes.length → netB ⟨n.pump, withP n.pipes bores l k⟩ = true := by
  intro k
  induction k with
  | zero => intro _; rw [withP_zero]; exact hok
  | succ k ih =>
    intro hk
    have hl : k + 1 < (withP n.pipes bores l k).length := by rw [withP_len]; exact hk
    have h := netB_wide (ih (by omega)) (ice := k + 1) (by omega) hl (hb k hk)
    simp only [] at h
    rw [← ix_eq hl, withP_succ n.pipes bores l hk] at h
    exact h
/-- The vacuum at a node with other bores. -/
def vacW (n : Net) (flows : List Rng) (bores : List Bor) (l : List Int) (j : Nat) : Int := vacV n.pump (withP n.pipes bores l (n.pipes.length - 1)) (highF flows) [] j
theorem vacW_zero (n : Net) (flows : List Rng) (bores : List Bor) (l : List Int) : vacW n flows bores l 0 = n.pump := vacV_zero _ _ _ _
theorem vacW_step {n : Net} (hok : netB n = true) (flows : List Rng) (bores : List Bor) (l : List Int) (hb : ∀ k, k + 1 < n.pipes.length → 4 ≤ (ix bores (ix l k).toNat).size ∧ (ix bores (ix l k).toNat).size ≤ 80) {j : Nat} (h0 : 0 < j) (hj : j < n.pipes.length) :
    vacW n flows bores l j = vacB (pAt n.pipes j) (ix bores (ix l (j - 1)).toNat) (vacW n flows bores l (par n.pipes j).toNat) ((loadT n flows).getD j 0) := by
  have hw := netB_tree (withP_net hok bores l hb (n.pipes.length - 1) (by omega))
  have hs := vacV_step n.pump hw (highF flows) [] h0 (by rw [withP_len]; exact hj)
  have hp : par (withP n.pipes bores l (n.pipes.length - 1)) (j : Nat) = par n.pipes j := withP_par _ _ _ _ hj
  have hpa : pAt (withP n.pipes bores l (n.pipes.length - 1)) j = { pAt n.pipes j with bore := (ix bores (ix l (j - 1)).toNat).size } := by
    have := withP_at n.pipes bores l (n.pipes.length - 1) hj
    rw [if_pos ⟨h0, by omega⟩] at this
    exact this
  have hld : ldV (withP n.pipes bores l (n.pipes.length - 1)) (highF flows) [] j = (loadT n flows).getD j 0 := by
    rw [loadT_at n flows hj, ldV_eqp (withP_len _ _ _ _) (fun k hk => withP_par _ _ _ _ hk)]
  unfold vacW vacB
  rw [hs, hp, hpa, hld]
  rfl
/-- What the pipes of the first nodes cost. -/
def costE (ps : List Pipe) (bores : List Bor) (l : List Int) (k : Nat) : Int := sg k fun j => if 0 < j then (pAt ps j).length * (ix bores (ix l (j - 1)).toNat).price else 0
theorem costE_one (ps : List Pipe) (bores : List Bor) (l : List Int) : costE ps bores l 1 = 0 := by unfold costE; rw [sg_succ]; simp [sg]
theorem costE_succ (ps : List Pipe) (bores : List Bor) (l : List Int) (k : Nat) : costE ps bores l (k + 1 + 1) = costE ps bores l (k + 1) + (pAt ps (k + 1)).length * (ix bores (ix l k).toNat).price := by
  unfold costE; rw [sg_succ, if_pos (by omega), Nat.add_sub_cancel]
/-- Whether the vacuum is enough at each node. -/
def enB (n : Net) (flows : List Rng) (bores : List Bor) (need : Int) (l : List Int) : Bool := (List.range n.pipes.length).all fun j => !(decide (0 < (ix n.pipes j).taps ∧ vacW n flows bores l j < need))
theorem enB_no {n : Net} {flows : List Rng} {bores : List Bor} {need : Int} {l : List Int} {j : Nat} (hj : j < n.pipes.length) (h1 : 0 < (ix n.pipes j).taps) (h2 : vacW n flows bores l j < need) : enB n flows bores need l = false := by
  unfold enB
  rw [List.all_eq_false]
  exact ⟨j, List.mem_range.2 hj, by simp [h1, h2]⟩
theorem enB_yes {n : Net} {flows : List Rng} {bores : List Bor} {need : Int} {l : List Int} (h : ∀ j, j < n.pipes.length → ¬ (0 < (ix n.pipes j).taps ∧ vacW n flows bores l j < need)) : enB n flows bores need l = true := by
  unfold enB
  rw [List.all_eq_true]
  intro j hj
  rw [decide_eq_false (h j (List.mem_range.1 hj))]; rfl
theorem enB_at {n : Net} {flows : List Rng} {bores : List Bor} {need : Int} {l : List Int} (h : enB n flows bores need l = true) {j : Nat} (hj : j < n.pipes.length) : ¬ (0 < (ix n.pipes j).taps ∧ vacW n flows bores l j < need) := by
  unfold enB at h
  rw [List.all_eq_true] at h
  have := h j (List.mem_range.2 hj)
  intro hh
  rw [decide_eq_true hh] at this
  cases this
theorem vac_same {ps : List Pipe} {loads : List Int} {bores : List Bor} (ht : Tree ps) {m m' : Nat → Nat} {V V' : Nat → Int} (h0 : V 0 = V' 0) (hv : ∀ j, 0 < j → j < ps.length → V j = vacB (pAt ps j) (ix bores (m j)) (V (par ps j).toNat) (loads.getD j 0))
    (hv' : ∀ j, 0 < j → j < ps.length → V' j = vacB (pAt ps j) (ix bores (m' j)) (V' (par ps j).toNat) (loads.getD j 0)) {J : Nat} (hm : ∀ j, 0 < j → j < J → m j = m' j) : ∀ j, j < J → j < ps.length → V j = V' j := by
  intro j
  induction j using Nat.strongRecOn with
  | ind j ih =>
    intro h1 h2
    rcases Nat.eq_zero_or_pos j with rfl | hp
    · exact h0
    · have hq := ht j h2
      rw [hv j hp h2, hv' j hp h2, hm j hp h1, ih (par ps j).toNat (by omega) (by omega) (by omega)]
/-- The first list is smaller than the second one. -/
def lessB : List Int → List Int → Bool
  | a :: xs, b :: ys => if a = b then lessB xs ys else decide (a < b)
  | _, _ => false
theorem lessB_at : ∀ {k : Nat} {a b : List Int}, (∀ j, j < k → ix a j = ix b j) → k < a.length → k < b.length → ix a k ≠ ix b k → lessB a b = decide (ix a k < ix b k) := by
  intro k
  induction k with
  | zero =>
    intro a b _ h1 h2 h3
    match a, b, h1, h2 with
    | x :: xs, y :: ys, _, _ => exact if_neg h3
  | succ k ih =>
    intro a b h h1 h2 h3
    match a, b, h1, h2 with
    | x :: xs, y :: ys, h1, h2 =>
      have e : x = y := h 0 (by omega)
      have : lessB (x :: xs) (y :: ys) = lessB xs ys := if_pos e
      rw [this]
      exact ih (fun j hj => h (j + 1) (by omega)) (by simpa using h1) (by simpa using h2) h3
theorem lessB_same : ∀ {a b : List Int}, (∀ j, j < a.length → ix a j = ix b j) → a.length = b.length → lessB a b = false := by
  intro a
  induction a with
  | nil => intro b _ _; rfl
  | cons x xs ih =>
    intro b h hl
    match b, hl with
    | y :: ys, hl =>
      have e : x = y := h 0 (by simp)
      have : lessB (x :: xs) (y :: ys) = lessB xs ys := if_pos e
      rw [this]
      exact ih (fun j hj => h (j + 1) (by simpa using hj)) (by simpa using hl)
theorem lessB_true : ∀ {a b : List Int}, lessB a b = true → ∃ k, k < a.length ∧ k < b.length ∧ (∀ j, j < k → ix a j = ix b j) ∧ ix a k < ix b k := by
  intro a
  induction a with
  | nil => intro b h; cases h
  | cons x xs ih =>
    intro b h
    match b, h with
    | y :: ys, h =>
      by_cases e : x = y
      · have h2 : lessB (x :: xs) (y :: ys) = lessB xs ys := if_pos e
        rw [h2] at h
        obtain ⟨k, h3, h4, h5, h6⟩ := ih h
        refine ⟨k + 1, by simpa using h3, by simpa using h4, fun j hj => ?_, h6⟩
        cases j with
        | zero => exact e
        | succ j => exact h5 j (by omega)
      · have h2 : lessB (x :: xs) (y :: ys) = decide (x < y) := if_neg e
        rw [h2] at h
        exact ⟨0, by simp, by simp, fun j hj => by omega, of_decide_eq_true h⟩
theorem plB_at {ps : List Pipe} (ht : Tree ps) (loads : List Int) (bores : List Bor) (need pump : Int) {j : Nat} : ∀ k, j < k → k < ps.length → ix (plTo ps loads bores need pump k).2 j = (plC ps loads bores need pump (j + 1)).index := by
  intro k
  induction k with
  | zero => intro h; omega
  | succ k ih =>
    intro h1 h2
    have hl := (plTo_len ps loads bores need pump (show k < ps.length by omega)).2
    rw [plTo_succ ht loads bores need pump h2]
    simp only []
    rcases Nat.lt_or_ge j k with h | h
    · rw [ix_app (by omega)]; exact ih h (by omega)
    · obtain rfl : j = k := by omega
      have := ix_app2 (xs := (plTo ps loads bores need pump j).2) (ys := [(plC ps loads bores need pump (j + 1)).index]) (i := 0)
      rw [hl] at this
      exact this
theorem planA_zero {n : Net} {flows : List Rng} {bores : List Bor} {need : Int} (h : (planA n flows bores need).2.2 = 0) : flowE n flows [] = 0 ∧ chV bores need = 0 ∧ ∀ j, 0 < j → j < n.pipes.length → 0 ≤ (plC n.pipes (loadT n flows) bores need n.pump j).index := by
  by_cases h1 : flowE n flows [] = 0
  · by_cases h2 : chV bores need = 0
    · refine ⟨h1, h2, ?_⟩
      obtain ⟨H, p0, p1⟩ := plan_ok h1 h2
      rw [planA_ok h1 h2] at h
      refine plan_has H p0 p1 ?_
      unfold planF at h
      split at h
      · assumption
      · cases h
    · rw [planA_ch h1 h2] at h; exact absurd h h2
  · rw [planA_flow h1] at h; exact absurd h h1
theorem planA_err {n : Net} {flows : List Rng} {bores : List Bor} {need : Int} (h : (planA n flows bores need).2.2 ≠ 0) : (planA n flows bores need).1 = [] ∧ (planA n flows bores need).2.1 = 0 := by
  by_cases h1 : flowE n flows [] = 0
  · by_cases h2 : chV bores need = 0
    · rw [planA_ok h1 h2] at h ⊢
      unfold planF at h ⊢
      split at h
      · exact absurd rfl h
      · rename_i hh; rw [if_neg hh]; exact ⟨rfl, rfl⟩
    · rw [planA_ch h1 h2]; exact ⟨rfl, rfl⟩
  · rw [planA_flow h1]; exact ⟨rfl, rfl⟩
section
variable {n : Net} {flows : List Rng} {bores : List Bor} {need : Int} (hE : flowE n flows [] = 0) (hC : chV bores need = 0)
include hE hC
theorem size_ok {l : List Int} (hl : l.length = n.pipes.length - 1) (hr : ∀ j, j < l.length → 0 ≤ ix l j ∧ ix l j < bores.length) : ∀ k, k + 1 < n.pipes.length → 4 ≤ (ix bores (ix l k).toNat).size ∧ (ix bores (ix l k).toNat).size ≤ 80 := fun k hk => by
  have h := hr k (by omega)
  have := bore_at (chV_zero hC).2.1 (k := (ix l k).toNat) (by omega)
  exact ⟨this.1, this.2.1⟩
theorem sel_of {l : List Int} (hl : l.length = n.pipes.length - 1) (hr : ∀ j, j < l.length → 0 ≤ ix l j ∧ ix l j < bores.length) (hok : enB n flows bores need l = true) : Sel n.pipes (loadT n flows) bores need n.pump (fun j => (ix l (j - 1)).toNat) (vacW n flows bores l) where
  v0 := vacW_zero n flows bores l
  v := fun j h0 hj => vacW_step (flowE_zero hE).1 flows bores l (size_ok hE hC hl hr) h0 hj
  lt := fun j h0 hj => by have := hr (j - 1) (by omega); omega
  ok := fun j h0 hj => enB_at hok hj
variable (hall : ∀ j, 0 < j → j < n.pipes.length → 0 ≤ (plC n.pipes (loadT n flows) bores need n.pump j).index)
include hall
theorem plan_list : ((plTo n.pipes (loadT n flows) bores need n.pump (n.pipes.length - 1)).2.length = n.pipes.length - 1) ∧ (∀ j, j < n.pipes.length - 1 → ix (plTo n.pipes (loadT n flows) bores need n.pump (n.pipes.length - 1)).2 j = (plC n.pipes (loadT n flows) bores need n.pump (j + 1)).index ∧ 0 ≤ ix (plTo n.pipes (loadT n flows) bores need n.pump (n.pipes.length - 1)).2 j ∧ ix (plTo n.pipes (loadT n flows) bores need n.pump (n.pipes.length - 1)).2 j < bores.length) := by
  obtain ⟨hok, _⟩ := flowE_zero hE
  have hn := netB_len hok
  obtain ⟨H, p0, p1⟩ := plan_ok hE hC
  refine ⟨(plTo_len _ _ _ _ _ (by omega)).2, fun j hj => ?_⟩
  have h1 := plB_at H.t (loadT n flows) bores need n.pump (j := j) (n.pipes.length - 1) hj (by omega)
  have h2 := hall (j + 1) (by omega) (by omega)
  have h3 := ((plC_best H p0 p1 (show 0 < j + 1 by omega) (by omega)).best h2).1
  rw [h1]
  exact ⟨rfl, h2, by omega⟩
theorem plan_sum : (allF (atL n.pipes (loadT n flows) bores need) n.pump (kids n.pipes 0) 0).1 = plS n.pipes (loadT n flows) bores need n.pump n.pipes.length := by
  obtain ⟨hok, _⟩ := flowE_zero hE
  have hn := netB_len hok
  obtain ⟨H, p0, p1⟩ := plan_ok hE hC
  have h := plan_cost H p0 p1 (by omega) hall
  have hs : (allF (atL n.pipes (loadT n flows) bores need) n.pump (kids n.pipes 0) 0).2 = true := by rw [Sel.all H p0 p1 (plan_sel H p0 p1 hall)]
  unfold planF at h
  rw [if_pos hs] at h
  exact (congrArg (fun q => q.2.1) h)
theorem plan_vac : ∀ j, j < n.pipes.length → vacW n flows bores (plTo n.pipes (loadT n flows) bores need n.pump (n.pipes.length - 1)).2 j = plV n.pipes (loadT n flows) bores need n.pump j := by
  obtain ⟨hok, _⟩ := flowE_zero hE
  obtain ⟨H, p0, p1⟩ := plan_ok hE hC
  obtain ⟨hl, hp⟩ := plan_list hE hC hall
  have S := plan_sel H p0 p1 hall
  have hz := size_ok hE hC hl (fun j hj => (hp j (by omega)).2)
  exact fun j hj => vac_same (loads := loadT n flows) (bores := bores) H.t (m := fun j => (ix (plTo n.pipes (loadT n flows) bores need n.pump (n.pipes.length - 1)).2 (j - 1)).toNat) (m' := fun j => (plC n.pipes (loadT n flows) bores need n.pump j).index.toNat)
    ((vacW_zero _ _ _ _).trans S.v0.symm) (fun i h0 hi => vacW_step hok flows bores _ hz h0 hi) S.v (J := n.pipes.length) (fun i h0 hi => by
      have := (hp (i - 1) (by omega)).1
      rw [show i - 1 + 1 = i by omega] at this
      rw [this]) j hj hj
theorem plan_enough : enB n flows bores need (plTo n.pipes (loadT n flows) bores need n.pump (n.pipes.length - 1)).2 = true ∧ costE n.pipes bores (plTo n.pipes (loadT n flows) bores need n.pump (n.pipes.length - 1)).2 n.pipes.length = plS n.pipes (loadT n flows) bores need n.pump n.pipes.length := by
  obtain ⟨hok, _⟩ := flowE_zero hE
  obtain ⟨H, p0, p1⟩ := plan_ok hE hC
  obtain ⟨hl, hp⟩ := plan_list hE hC hall
  have S := plan_sel H p0 p1 hall
  refine ⟨enB_yes fun j hj => ?_, ?_⟩
  · rw [plan_vac hE hC hall j hj]
    rcases Nat.eq_zero_or_pos j with rfl | h0
    · rw [netB_zero hok]; intro h; exact absurd h.1 (by decide)
    · exact S.ok j h0 hj
  · unfold costE plS
    refine sg_congr _ fun j hj => ?_
    rcases Nat.eq_zero_or_pos j with rfl | h0
    · rfl
    · have := (hp (j - 1) (by omega)).1
      rw [show j - 1 + 1 = j by omega] at this
      rw [if_pos h0, if_pos h0, this]
theorem cheap {l : List Int} (hl : l.length = n.pipes.length - 1) (hr : ∀ j, j < l.length → 0 ≤ ix l j ∧ ix l j < bores.length) (hok : enB n flows bores need l = true) :
    plS n.pipes (loadT n flows) bores need n.pump n.pipes.length ≤ costE n.pipes bores l n.pipes.length ∧ (costE n.pipes bores l n.pipes.length = plS n.pipes (loadT n flows) bores need n.pump n.pipes.length → lessB l (plTo n.pipes (loadT n flows) bores need n.pump (n.pipes.length - 1)).2 = false) := by
  obtain ⟨hne, _⟩ := flowE_zero hE
  have hn := netB_len hne
  obtain ⟨H, p0, p1⟩ := plan_ok hE hC
  obtain ⟨hl2, hp⟩ := plan_list hE hC hall
  have S := sel_of hE hC hl hr hok
  have S0 := plan_sel H p0 p1 hall
  have ht := Sel.total H p0 p1 S (by omega)
  rw [plan_sum hE hC hall] at ht
  have hc : costE n.pipes bores l n.pipes.length = sg n.pipes.length (fun j => if 0 < j then (pAt n.pipes j).length * (ix bores (ix l (j - 1)).toNat).price else 0) := rfl
  rw [← hc] at ht
  have hnn : ∀ j, j < n.pipes.length → 0 ≤ (if 0 < j then more n.pipes (loadT n flows) bores need (fun j => (ix l (j - 1)).toNat) (vacW n flows bores l) j else 0) := fun j hj => by
    split
    · rename_i h0; exact (Sel.more_pos H p0 p1 S h0 hj).1
    · exact Int.le_refl _
  have hs := sg_nonneg n.pipes.length hnn
  refine ⟨by omega, fun he => ?_⟩
  have hz := (sg_null n.pipes.length hnn).1 (by omega)
  cases hsm : lessB l (plTo n.pipes (loadT n flows) bores need n.pump (n.pipes.length - 1)).2 with
  | false => rfl
  | true =>
    obtain ⟨k, k1, k2, k3, k4⟩ := lessB_true hsm
    have hk : k + 1 < n.pipes.length := by omega
    have hpk := H.t (k + 1) hk
    have hv : vacW n flows bores l (par n.pipes (k + 1 : Nat)).toNat = plV n.pipes (loadT n flows) bores need n.pump (par n.pipes (k + 1 : Nat)).toNat :=
      vac_same (loads := loadT n flows) (bores := bores) H.t (m := fun j => (ix l (j - 1)).toNat) (m' := fun j => (plC n.pipes (loadT n flows) bores need n.pump j).index.toNat) (S.v0.trans S0.v0.symm) S.v S0.v (J := k + 1) (fun i h0 hi => by
        have h1 := (hp (i - 1) (by omega)).1
        rw [show i - 1 + 1 = i by omega] at h1
        rw [k3 (i - 1) (by omega), h1]) _ (by omega) (by omega)
    have hm := (Sel.more_pos H p0 p1 S (show 0 < k + 1 by omega) hk).2.1
    have hidx := (hp k (by omega)).1
    have h0 := hz (k + 1) hk
    rw [if_pos (by omega)] at h0
    simp only [Nat.add_sub_cancel] at hm
    rw [hv] at hm
    have := hm (by
      show ((ix l k).toNat : Int) < (plC n.pipes (loadT n flows) bores need n.pump (k + 1)).index
      have := hr k k1
      omega)
    omega
end
end Go.Proofs.Ytepibjfmeibgcaa
/- LineCheapest, walked. -/
namespace Go.Proofs.Ytepibjfmeibgcaa
open Go.RowKit
set_option linter.unusedVariables false
theorem Vacuum_nil (n : Net) (flows : List Rng) (hok : netB n = true) (hl : flows.length = n.pipes.length) (hf : flowsB flows = true) : CallFr Try.prog 24 [.agg [.i n.pump, .ls 1], .ls 2, .v (.slice none 0 0)] [1, 2] [some (.ro 5 n.pipes.length (Lst eP n.pipes)), some (.ro 2 flows.length (Lst eR flows))] (.tup [.one (.ls 4), .one (.i 0)]) [(4, some (.vec 52 2 n.pipes.length (Lst eR (pairT (vacV n.pump n.pipes (highF flows) []) (vacV n.pump n.pipes (lowF flows) []) n.pipes.length))))] := by
  have hn := netB_len hok
  have h : CallFr Try.prog 24 [.agg [.i n.pump, .ls 1], .ls 2, .v (.slice none 0 0)] [1, 2] [some (.ro 5 n.pipes.length (Lst eP n.pipes)), some (.ro 2 flows.length (Lst eR flows))] (.tup [.one (.ls 4), .one (.i (VacuumV n flows []).2)]) [(4, some (.vec 52 2 (VacuumV n flows []).1.length (Lst eR (VacuumV n flows []).1)))] :=
    callFr_vec (by rfl) (by omega) fun ν sup w m => by
      obtain ⟨A, c, e, h1, h2⟩ := mP m (i := 1) rfl
      obtain ⟨B, d, e2, h3, h4⟩ := mR m (i := 2) rfl
      simp only [List.map_cons, List.map_nil, SV.val, PV.val, LV.val, e, e2]
      refine (VacuumC n A c w 0 _ h2 (Nat.le_refl _) h1 (by unfold maxLen; omega) B none d 0 flows [] 0 _ 0 0 h4 (Nat.le_refl _) (by unfold maxLen; omega) Rd.nil (Nat.zero_le _) (Nat.le_refl _) (Nat.zero_le _)).mono fun e w' ⟨⟨v, h7, h8⟩, h9⟩ => ⟨⟨v, _, ?_, h8, fR _⟩, h9⟩
      rw [h7, upd_self]
  rw [VacuumV_R hok hl hf rfl] at h
  simp only [pairT_len] at h
  exact h
def enS (n : Net) (flows : List Rng) (bores : List Bor) (need : Int) (l : List Int) : Int := if enB n flows bores need l = true then costE n.pipes bores l n.pipes.length else 0
theorem enS_yes {n : Net} {flows : List Rng} {bores : List Bor} {need : Int} {l : List Int} (h : enB n flows bores need l = true) : enS n flows bores need l = costE n.pipes bores l n.pipes.length := if_pos h
theorem enS_no {n : Net} {flows : List Rng} {bores : List Bor} {need : Int} {l : List Int} (h : enB n flows bores need l = false) : enS n flows bores need l = 0 := if_neg (by rw [h]; exact Bool.false_ne_true)
theorem set_rng {l : List Int} {b : Nat} (h : ∀ j, j < l.length → 0 ≤ ix l j ∧ ix l j < b) (k : Nat) (x : Int) (hx : 0 ≤ x ∧ x < b) : ∀ j, j < (l.set k x).length → 0 ≤ ix (l.set k x) j ∧ ix (l.set k x) j < b := fun j hj => by
  rw [List.length_set] at hj
  rw [ix_set hj]
  split
  · exact hx
  · exact h j hj
def enough_frK1 (n : Net) : Cn := .ro 5 n.pipes.length (Lst eP n.pipes)
def enough_frK2 (flows : List Rng) : Cn := .ro 2 flows.length (Lst eR flows)
def enough_frK3 (bores : List Bor) : Cn := .ro 2 bores.length (Lst eO bores)
def enough_frK4 (n : Net) : Cn := .vec 54 5 ((n.pipes).length) (Lst eP n.pipes)
def enough_frK5 (n : Net) (bores : List Bor) (l : List Int) (i : Nat) : Cn := .vec 54 5 n.pipes.length (Lst eP (withP n.pipes bores l i))
def enough_frK6 (bores : List Bor) (l : List Int) (i : Nat) : Cn := .blk 38 [.i ((ix bores ((ix l i).toNat)).size), .i ((ix bores ((ix l i).toNat)).price)]
def enough_frK7 (n : Net) (bores : List Bor) (l : List Int) (i : Nat) : Cn := .vec 54 5 n.pipes.length (Lst eP ((withP n.pipes bores l i).set (i + 1) (⟨(ix (withP n.pipes bores l i) (i + 1)).parent, (ix (withP n.pipes bores l i) (i + 1)).length, (ix bores ((ix l i).toNat)).size, (ix (withP n.pipes bores l i) (i + 1)).drop, (ix (withP n.pipes bores l i) (i + 1)).taps⟩ : Pipe)))
def enough_frK8 (n : Net) (bores : List Bor) (l : List Int) (i : Nat) : Cn := .vec 54 5 n.pipes.length (Lst eP (withP n.pipes bores l (i + 1)))
def enough_frK9 (n : Net) (bores : List Bor) (l : List Int) : Cn := .vec 54 5 n.pipes.length (Lst eP (withP n.pipes bores l (n.pipes.length - 1)))
def enough_frK10 (flows : List Rng) : Cn := .vec 52 2 ((flows).length) (Lst eR flows)
def enough_frK11 (n : Net) (bores : List Bor) (l : List Int) (flows : List Rng) : Cn := .vec 52 2 ((withP n.pipes bores l (n.pipes.length - 1)).length) (Lst eR (pairT (vacV n.pump (withP n.pipes bores l (n.pipes.length - 1)) (highF flows) []) (vacV n.pump (withP n.pipes bores l (n.pipes.length - 1)) (lowF flows) []) (withP n.pipes bores l (n.pipes.length - 1)).length))
set_option maxHeartbeats 1000000 in
set_option maxRecDepth 100000 in
theorem enough_fr (n : Net) (flows : List Rng) (bores : List Bor) (need : Int) (l : List Int) (hE : flowE n flows [] = 0) (hC : chV bores need = 0) (hl : l.length = n.pipes.length - 1) (hr : ∀ j, j < l.length → 0 ≤ ix l j ∧ ix l j < bores.length) : CallFr Try.prog 27 [.agg [.i n.pump, .ls 1], .ls 2, .agg [.ls 3, .i need], .ls 4] [1, 2, 3, 4] [some (.ro 5 n.pipes.length (Lst eP n.pipes)), some (.ro 2 flows.length (Lst eR flows)), some (.ro 2 bores.length (Lst eO bores)), some (.ro 1 l.length (Lst eI l))] (.tup [.one (.i (enS n flows bores need l)), .one (.v (.bool (enB n flows bores need l)))]) [] := by
 obtain ⟨hok, hck⟩ := flowE_zero hE
 obtain ⟨hfl, hfb⟩ := chkF_zero hck
 have hnl := netB_len hok
 obtain ⟨c1, c2, c3, c4, c5⟩ := chV_zero hC
 obtain ⟨H, p0, p1⟩ := plan_ok hE hC
 refine callFr_of (fn := Try.f27) (by kernel_rfl) rfl (by kernel_rfl) (by kernel_rfl) fun E => ?_
 refine aw_ent (T := ⟨112, [1, 2, 3, 4], [(0, .agg [.i n.pump, .ls 1]), (1, .ls 2), (2, .agg [.ls 3, .i need]), (3, .ls 4)], [(1, some (enough_frK1 n)), (2, some (enough_frK2 flows)), (3, some (enough_frK3 bores)), (4, some (.ro 1 l.length (Lst eI l)))]⟩) (Ent.refl _) ?_
 refine aw_seq ?_
 refine aw_r [(0, .new 1004), (1, .new 1006)]
  ⟨112, [1, 2, 3, 4], [(1, .ls 2), (3, .ls 4), (4, .l (.ref 1004 0)), (6, .l (.ref 1006 0))], [(1, some (enough_frK1 n)), (2, some (enough_frK2 flows)), (3, some (enough_frK3 bores)), (4, some (.ro 1 l.length (Lst eI l))), (1004, some (.blk 24 [.i n.pump, .ls 1])), (1006, some (.blk 28 [.ls 3, .i need]))]⟩
  [] (by kernel_rfl) trivial ?_
 refine aw_seq ?_
 refine aw_r [(1, .call [1] (.agg [.i n.pump, .ls 10180]) [(10180, some (enough_frK4 n))]), (2, .new 1010)]
  ⟨112, [1, 2, 3, 4], [(1, .ls 2), (3, .ls 4), (4, .l (.ref 1004 0)), (6, .l (.ref 1006 0)), (10, .l (.ref 1010 0)), (11, .i 0)], [(1, some (enough_frK1 n)), (2, some (enough_frK2 flows)), (3, some (enough_frK3 bores)), (4, some (.ro 1 l.length (Lst eI l))), (1004, some (.blk 24 [.i n.pump, .ls 1])), (1006, some (.blk 28 [.ls 3, .i need])), (1010, some (.blk 24 [.i n.pump, .ls 10180])), (10180, some (enough_frK4 n))]⟩
  [CallOK Try.prog 17 [.agg [.i n.pump, .ls 1]] [1] [some (enough_frK1 n)] (.agg [.i n.pump, .ls 10180]) [(10180, some (enough_frK4 n))]] (by kernel_rfl) (al1 (CallFr.to (own_fr n (by first | omega | (dsimp only; omega))) [(1, 1), (2, 10180)] (by kernel_rfl) (by kernel_rfl) (by kernel_rfl) (by kernel_rfl) (by kernel_rfl) (dem_cons rfl (le_ro rfl el_rfl) dem_nil))) ?_
 refine aw_seq ?_
 refine aw_seq ?_
 refine aw_r []
  ⟨112, [1, 2, 3, 4], [(1, .ls 2), (3, .ls 4), (4, .l (.ref 1004 0)), (6, .l (.ref 1006 0)), (10, .l (.ref 1010 0)), (11, .i 0), (12, .i 0)], [(1, some (enough_frK1 n)), (2, some (enough_frK2 flows)), (3, some (enough_frK3 bores)), (4, some (.ro 1 l.length (Lst eI l))), (1004, some (.blk 24 [.i n.pump, .ls 1])), (1006, some (.blk 28 [.ls 3, .i need])), (1010, some (.blk 24 [.i n.pump, .ls 10180])), (10180, some (enough_frK4 n))]⟩
  [] (by kernel_rfl) trivial ?_
 refine aw_block ?_
 refine aw_loop (ι := Nat) (fun zz => ⟨112, [1, 2, 3, 4], [(1, .ls 2), (3, .ls 4), (4, .l (.ref 1004 0)), (6, .l (.ref 1006 0)), (10, .l (.ref 1010 0)), (11, .i (costE n.pipes bores l (zz + 1))), (12, .i ((zz : Nat) : Int))], [(1, some (enough_frK1 n)), (2, some (enough_frK2 flows)), (3, some (enough_frK3 bores)), (4, some (.ro 1 l.length (Lst eI l))), (1004, some (.blk 24 [.i n.pump, .ls 1])), (1006, some (.blk 28 [.ls 3, .i need])), (1010, some (.blk 24 [.i n.pump, .ls 9701])), (9701, some (enough_frK5 n bores l zz))]⟩) (fun zz => (zz ≤ l.length) ∧ (0 ≤ costE n.pipes bores l (zz + 1) ∧ costE n.pipes bores l (zz + 1) ≤ ((zz : Nat) : Int) * 100000000)) (fun zz => l.length - zz) 0 ⟨(by first | omega | rfl | assumption | (simp; done)), (by rw [costE_one]; omega)⟩
     (Ent.ren [(9701, 10180)] rfl rfl (by kernel_rfl) ⟨rfl, rfl, rfl, rfl, rfl, (slot_i rfl (by first | rfl | omega | assumption | (exact (withP_zero _ _ _).symm) | (exact (costE_one _ _ _).symm))), rfl, trivial⟩ (cro rfl (cro rfl (cro rfl (cro rfl (cbl rfl rfl (cbl rfl rfl (cbl rfl rfl (conts_cons rfl (le_vec rfl (lst_eq (by first | rfl | omega | assumption | (exact (withP_zero _ _ _).symm) | (exact (costE_one _ _ _).symm)))) trivial)))))))) (by kernel_rfl)) fun zz hp => ?_
 obtain ⟨i, rfl⟩ : ∃ x, x = zz := ⟨_, rfl⟩
 obtain ⟨hi, hsum⟩ := hp
 show AW _ E _ _ ⟨112, [1, 2, 3, 4], [(1, .ls 2), (3, .ls 4), (4, .l (.ref 1004 0)), (6, .l (.ref 1006 0)), (10, .l (.ref 1010 0)), (11, .i (costE n.pipes bores l (i + 1))), (12, .i ((i : Nat) : Int))], [(1, some (enough_frK1 n)), (2, some (enough_frK2 flows)), (3, some (enough_frK3 bores)), (4, some (.ro 1 l.length (Lst eI l))), (1004, some (.blk 24 [.i n.pump, .ls 1])), (1006, some (.blk 28 [.ls 3, .i need])), (1010, some (.blk 24 [.i n.pump, .ls 9701])), (9701, some (enough_frK5 n bores l i))]⟩
 refine aw_seq ?_
 refine aw_seq ?_
 refine aw_r []
  ⟨112, [1, 2, 3, 4], [(1, .ls 2), (3, .ls 4), (4, .l (.ref 1004 0)), (6, .l (.ref 1006 0)), (10, .l (.ref 1010 0)), (11, .i (costE n.pipes bores l (i + 1))), (12, .i ((i : Nat) : Int)), (22, .b (decide (((i : Nat) : Int) < ((l.length : Nat) : Int))))], [(1, some (enough_frK1 n)), (2, some (enough_frK2 flows)), (3, some (enough_frK3 bores)), (4, some (.ro 1 l.length (Lst eI l))), (1004, some (.blk 24 [.i n.pump, .ls 1])), (1006, some (.blk 28 [.ls 3, .i need])), (1010, some (.blk 24 [.i n.pump, .ls 9701])), (9701, some (enough_frK5 n bores l i))]⟩
  [] (by kernel_rfl) trivial ?_
 refine aw_cond (b := decide (((i : Nat) : Int) < ((l.length : Nat) : Int))) rfl (fun h1 => ?_) (fun h1 => ?_)
 ·
  have h1p : ((i : Nat) : Int) < ((l.length : Nat) : Int) := dtr h1
  refine aw_skip ?_
  refine aw_seq ?_
  refine aw_block ?_
  refine aw_seq ?_
  have hri := hr i (by omega)
  have hbi := bore_at c2 (k := (ix l i).toNat) (by omega)
  refine aw_d [(4, .idx i), (6, .idx ((ix l i).toNat)), (8, .new 1013)]
   ⟨112, [1, 2, 3, 4], [(1, .ls 2), (3, .ls 4), (4, .l (.ref 1004 0)), (6, .l (.ref 1006 0)), (10, .l (.ref 1010 0)), (11, .i (costE n.pipes bores l (i + 1))), (12, .i ((i : Nat) : Int)), (13, .l (.ref 1013 0))], [(1, some (enough_frK1 n)), (2, some (enough_frK2 flows)), (3, some (enough_frK3 bores)), (4, some (.ro 1 l.length (Lst eI l))), (1004, some (.blk 24 [.i n.pump, .ls 1])), (1006, some (.blk 28 [.ls 3, .i need])), (1010, some (.blk 24 [.i n.pump, .ls 9701])), (1013, some (enough_frK6 bores l i)), (9701, some (enough_frK5 n bores l i))]⟩
   [((i : Nat) : Int) = ((i : Nat) : Int), i < l.length, i < l.length, (ix l i) = (((ix l i).toNat : Nat) : Int), (ix l i).toNat < bores.length, (ix l i).toNat < bores.length] (by kernel_rfl) (by kernel_rfl) (al2 (by omega) (al2 (by omega) (al2 (by omega) (al2 (by omega) (al2 (by omega) (al1 (by omega))))))) ?_
  refine aw_seq ?_
  refine aw_seq ?_
  have h2 : (decide ((ix bores ((ix l i).toNat)).size < 4)) = false := by refine decide_eq_false ?_; omega
  have h3 : (decide (80 < (ix bores ((ix l i).toNat)).size)) = false := by refine decide_eq_false ?_; omega
  have h4 : (decide ((ix bores ((ix l i).toNat)).price < 0)) = false := by refine decide_eq_false ?_; omega
  refine aw_r [(3, .dec false), (8, .dec false), (13, .dec false)]
   ⟨112, [1, 2, 3, 4], [(1, .ls 2), (3, .ls 4), (4, .l (.ref 1004 0)), (6, .l (.ref 1006 0)), (10, .l (.ref 1010 0)), (11, .i (costE n.pipes bores l (i + 1))), (12, .i ((i : Nat) : Int)), (13, .l (.ref 1013 0)), (50, .b (decide (1000 < (ix bores ((ix l i).toNat)).price)))], [(1, some (enough_frK1 n)), (2, some (enough_frK2 flows)), (3, some (enough_frK3 bores)), (4, some (.ro 1 l.length (Lst eI l))), (1004, some (.blk 24 [.i n.pump, .ls 1])), (1006, some (.blk 28 [.ls 3, .i need])), (1010, some (.blk 24 [.i n.pump, .ls 9701])), (1013, some (enough_frK6 bores l i)), (9701, some (enough_frK5 n bores l i))]⟩
   [decide ((ix bores ((ix l i).toNat)).size < 4) = false, decide (80 < (ix bores ((ix l i).toNat)).size) = false, decide ((ix bores ((ix l i).toNat)).price < 0) = false] (by kernel_rfl) (al2 h2 (al2 h3 (al1 h4))) ?_
  have h5 : (decide (1000 < (ix bores ((ix l i).toNat)).price)) = false := by refine decide_eq_false ?_; omega
  refine aw_cond (b := decide (1000 < (ix bores ((ix l i).toNat)).price)) rfl (fun h => Bool.noConfusion (h5.symm.trans h)) (fun _ => ?_)
  refine aw_skip ?_
  refine aw_seq ?_
  have hwi := withP_len n.pipes bores l i
  refine aw_r [(3, .num (((i + 1) : Nat) : Int)), (6, .idx (i + 1)), (8, .lst 0 0 (Lst eP ((withP n.pipes bores l i).set (i + 1) (⟨(ix (withP n.pipes bores l i) (i + 1)).parent, (ix (withP n.pipes bores l i) (i + 1)).length, (ix bores ((ix l i).toNat)).size, (ix (withP n.pipes bores l i) (i + 1)).drop, (ix (withP n.pipes bores l i) (i + 1)).taps⟩ : Pipe))))]
   ⟨112, [1, 2, 3, 4], [(1, .ls 2), (3, .ls 4), (4, .l (.ref 1004 0)), (6, .l (.ref 1006 0)), (10, .l (.ref 1010 0)), (11, .i (costE n.pipes bores l (i + 1))), (12, .i ((i : Nat) : Int)), (13, .l (.ref 1013 0))], [(1, some (enough_frK1 n)), (2, some (enough_frK2 flows)), (3, some (enough_frK3 bores)), (4, some (.ro 1 l.length (Lst eI l))), (1004, some (.blk 24 [.i n.pump, .ls 1])), (1006, some (.blk 28 [.ls 3, .i need])), (1010, some (.blk 24 [.i n.pump, .ls 9701])), (1013, some (enough_frK6 bores l i)), (9701, some (enough_frK7 n bores l i))]⟩
   [(((i : Nat) : Int) + 1) = (((i + 1) : Nat) : Int), -9223372036854775808 ≤ (((i + 1) : Nat) : Int) ∧ (((i + 1) : Nat) : Int) < 9223372036854775808, (((i + 1) : Nat) : Int) = (((i + 1) : Nat) : Int), (i + 1) < n.pipes.length, (i + 1) < n.pipes.length, (i + 1) < n.pipes.length, StoreOk 5 n.pipes.length (Lst eP (withP n.pipes bores l i)) (i + 1) 2 [.i ((ix bores ((ix l i).toNat)).size)] (Lst eP ((withP n.pipes bores l i).set (i + 1) (⟨(ix (withP n.pipes bores l i) (i + 1)).parent, (ix (withP n.pipes bores l i) (i + 1)).length, (ix bores ((ix l i).toNat)).size, (ix (withP n.pipes bores l i) (i + 1)).drop, (ix (withP n.pipes bores l i) (i + 1)).taps⟩ : Pipe)))] (by kernel_rfl) (al2 (by first | omega | rfl | assumption) (al2 (by first | omega | rfl | assumption) (al2 (by omega) (al2 (by omega) (al2 (by omega) (al2 (by omega) (al1 (store_at (by first | rfl | omega | (dsimp only; omega)) (fun | 0, _ => rfl | 1, _ => rfl | 2, _ => rfl | 3, _ => rfl | 4, _ => rfl | (n + 5), h => absurd h (by omega)))))))))) ?_
  have hwl : (ix (withP n.pipes bores l (i + 1)) (i + 1)).length = (ix n.pipes (i + 1)).length := (withP_same n.pipes bores l (i + 1) (by omega)).2.1
  have hob0 := own_bd H (node := i + 1) (k := (ix l i).toNat) (by omega) (by omega) (by omega)
  have hob : 0 ≤ (ix (withP n.pipes bores l (i + 1)) (i + 1)).length * (ix bores (ix l i).toNat).price ∧ (ix (withP n.pipes bores l (i + 1)) (i + 1)).length * (ix bores (ix l i).toNat).price ≤ 100000000 := by rw [hwl]; exact hob0
  refine aw_ent (T := ⟨112, [1, 2, 3, 4], [(1, .ls 2), (3, .ls 4), (4, .l (.ref 1004 0)), (6, .l (.ref 1006 0)), (10, .l (.ref 1010 0)), (11, .i (costE n.pipes bores l (i + 1))), (12, .i ((i : Nat) : Int)), (13, .l (.ref 1013 0))], [(1, some (enough_frK1 n)), (2, some (enough_frK2 flows)), (3, some (enough_frK3 bores)), (4, some (.ro 1 l.length (Lst eI l))), (1004, some (.blk 24 [.i n.pump, .ls 1])), (1006, some (.blk 28 [.ls 3, .i need])), (1010, some (.blk 24 [.i n.pump, .ls 9701])), (1013, some (enough_frK6 bores l i)), (9701, some (enough_frK8 n bores l i))]⟩)
      (Ent.ren [] rfl rfl (by kernel_rfl) ⟨rfl, rfl, rfl, rfl, rfl, rfl, rfl, rfl, trivial⟩ (cro rfl (cro rfl (cro rfl (cro rfl (cbl rfl rfl (cbl rfl rfl (cbl rfl rfl (cbl rfl rfl (conts_cons rfl (le_vec rfl (lst_eq (by first | rfl | omega | assumption | (exact withP_succ _ _ _ (by omega))))) trivial))))))))) (by kernel_rfl)) ?_
  refine aw_d [(4, .num (((i + 1) : Nat) : Int)), (5, .idx (i + 1))]
   ⟨112, [1, 2, 3, 4], [(1, .ls 2), (3, .ls 4), (4, .l (.ref 1004 0)), (6, .l (.ref 1006 0)), (10, .l (.ref 1010 0)), (11, .i ((costE n.pipes bores l (i + 1)) + ((ix (withP n.pipes bores l (i + 1)) (i + 1)).length * (ix bores ((ix l i).toNat)).price))), (12, .i ((i : Nat) : Int))], [(1, some (enough_frK1 n)), (2, some (enough_frK2 flows)), (3, some (enough_frK3 bores)), (4, some (.ro 1 l.length (Lst eI l))), (1004, some (.blk 24 [.i n.pump, .ls 1])), (1006, some (.blk 28 [.ls 3, .i need])), (1010, some (.blk 24 [.i n.pump, .ls 9701])), (9701, some (enough_frK8 n bores l i))]⟩
   [(((i : Nat) : Int) + 1) = (((i + 1) : Nat) : Int), -9223372036854775808 ≤ (((i + 1) : Nat) : Int) ∧ (((i + 1) : Nat) : Int) < 9223372036854775808, (((i + 1) : Nat) : Int) = (((i + 1) : Nat) : Int), (i + 1) < n.pipes.length, (i + 1) < n.pipes.length, (i + 1) < n.pipes.length, -9223372036854775808 ≤ ((ix (withP n.pipes bores l (i + 1)) (i + 1)).length * (ix bores ((ix l i).toNat)).price) ∧ ((ix (withP n.pipes bores l (i + 1)) (i + 1)).length * (ix bores ((ix l i).toNat)).price) < 9223372036854775808, -9223372036854775808 ≤ ((costE n.pipes bores l (i + 1)) + ((ix (withP n.pipes bores l (i + 1)) (i + 1)).length * (ix bores ((ix l i).toNat)).price)) ∧ ((costE n.pipes bores l (i + 1)) + ((ix (withP n.pipes bores l (i + 1)) (i + 1)).length * (ix bores ((ix l i).toNat)).price)) < 9223372036854775808] (by kernel_rfl) (by kernel_rfl) (al2 (by first | omega | rfl | assumption) (al2 (by first | omega | rfl | assumption) (al2 (by omega) (al2 (by omega) (al2 (by omega) (al2 (by omega) (al2 (by first | omega | rfl | assumption) (al1 (by first | omega | rfl | assumption))))))))) ?_
  refine aw_r [(1, .num (((i + 1) : Nat) : Int))]
   ⟨112, [1, 2, 3, 4], [(1, .ls 2), (3, .ls 4), (4, .l (.ref 1004 0)), (6, .l (.ref 1006 0)), (10, .l (.ref 1010 0)), (11, .i ((costE n.pipes bores l (i + 1)) + ((ix (withP n.pipes bores l (i + 1)) (i + 1)).length * (ix bores ((ix l i).toNat)).price))), (12, .i (((i + 1) : Nat) : Int))], [(1, some (enough_frK1 n)), (2, some (enough_frK2 flows)), (3, some (enough_frK3 bores)), (4, some (.ro 1 l.length (Lst eI l))), (1004, some (.blk 24 [.i n.pump, .ls 1])), (1006, some (.blk 28 [.ls 3, .i need])), (1010, some (.blk 24 [.i n.pump, .ls 9701])), (9701, some (enough_frK8 n bores l i))]⟩
   [(((i : Nat) : Int) + 1) = (((i + 1) : Nat) : Int), -9223372036854775808 ≤ (((i + 1) : Nat) : Int) ∧ (((i + 1) : Nat) : Int) < 9223372036854775808] (by kernel_rfl) (al2 (by first | omega | rfl | assumption) (al1 (by first | omega | rfl | assumption))) ?_
  have hcs := costE_succ n.pipes bores l i
  have hcs2 : costE n.pipes bores l (i + 1 + 1) = costE n.pipes bores l (i + 1) + (ix (withP n.pipes bores l (i + 1)) (i + 1)).length * (ix bores (ix l i).toNat).price := by rw [hwl]; exact hcs
  exact ⟨i + 1, ⟨(by first | omega | rfl | assumption | (simp; done)), (by rw [hcs2]; omega)⟩, (show l.length - (i + 1) < l.length - i by first | omega | rfl | assumption),
      (Ent.ren [] rfl rfl (by kernel_rfl) ⟨rfl, rfl, rfl, rfl, rfl, (slot_i rfl (by first | rfl | omega | assumption | (exact hcs2.symm))), rfl, trivial⟩ (cro rfl (cro rfl (cro rfl (cro rfl (cbl rfl rfl (cbl rfl rfl (cbl rfl rfl (cve rfl trivial)))))))) (by kernel_rfl))⟩
 ·
  have h1p : ((l.length : Nat) : Int) ≤ ((i : Nat) : Int) := dlt h1
  refine aw_exit (exit_then (exit_then (exit_in ?_)))
  refine aw_seq ?_
  have hwn : netB ⟨n.pump, (withP n.pipes bores l (n.pipes.length - 1))⟩ = true := withP_net hok bores l (size_ok hE hC hl hr) _ (by omega)
  have hwlen := withP_len n.pipes bores l (n.pipes.length - 1)
  refine aw_ent (T := ⟨112, [1, 2, 3, 4], [(1, .ls 2), (3, .ls 4), (4, .l (.ref 1004 0)), (6, .l (.ref 1006 0)), (10, .l (.ref 1010 0)), (11, .i (costE n.pipes bores l (i + 1))), (12, .i ((i : Nat) : Int)), (22, .b (decide (((i : Nat) : Int) < ((l.length : Nat) : Int))))], [(1, some (enough_frK1 n)), (2, some (enough_frK2 flows)), (3, some (enough_frK3 bores)), (4, some (.ro 1 l.length (Lst eI l))), (1004, some (.blk 24 [.i n.pump, .ls 1])), (1006, some (.blk 28 [.ls 3, .i need])), (1010, some (.blk 24 [.i n.pump, .ls 9701])), (9701, some (enough_frK9 n bores l))]⟩)
      (Ent.ren [] rfl rfl (by kernel_rfl) ⟨rfl, rfl, rfl, rfl, rfl, rfl, rfl, rfl, trivial⟩ (cro rfl (cro rfl (cro rfl (cro rfl (cbl rfl rfl (cbl rfl rfl (cbl rfl rfl (conts_cons rfl (le_vec rfl (lst_eq (by first | rfl | omega | assumption | (rw [show i = n.pipes.length - 1 by omega])))) trivial)))))))) (by kernel_rfl)) ?_
  refine aw_d [(2, .call [2] (.ls 10740) [(10740, some (enough_frK10 flows))]), (3, .call [9701, 10740] (.tup [.one (.ls 10750), .one (.i 0)]) [(10750, some (enough_frK11 n bores l flows))])]
   ⟨112, [1, 2, 3, 4], [(4, .l (.ref 1004 0)), (6, .l (.ref 1006 0)), (11, .i (costE n.pipes bores l (i + 1))), (14, .ls 10750), (15, .i 0)], [(1, some (enough_frK1 n)), (3, some (enough_frK3 bores)), (1004, some (.blk 24 [.i n.pump, .ls 1])), (1006, some (.blk 28 [.ls 3, .i need])), (10750, some (enough_frK11 n bores l flows))]⟩
   [CallOK Try.prog 18 [.ls 2] [2] [some (enough_frK2 flows)] (.ls 10740) [(10740, some (enough_frK10 flows))], CallOK Try.prog 24 [.agg [.i n.pump, .ls 9701], .ls 10740, .l (.v (.slice none 0 0))] [9701, 10740] [some (enough_frK9 n bores l), some (enough_frK10 flows)] (.tup [.one (.ls 10750), .one (.i 0)]) [(10750, some (enough_frK11 n bores l flows))]] (by kernel_rfl) (by kernel_rfl) (al2 (CallFr.to (ranges_fr flows (by first | omega | (rw [pairT_len] <;> omega))) [(1, 2), (2, 10740)] (by kernel_rfl) (by kernel_rfl) (by kernel_rfl) (by kernel_rfl) (by kernel_rfl) (dem_cons rfl (le_ro rfl el_rfl) dem_nil)) (al1 (CallFr.to (Vacuum_nil (⟨n.pump, (withP n.pipes bores l (n.pipes.length - 1))⟩) flows hwn (by first | omega | (dsimp only; omega)) hfb) [(1, 9701), (2, 10740), (4, 10750)] (by kernel_rfl) (by kernel_rfl) (by kernel_rfl) (by kernel_rfl) (by kernel_rfl) (dem_cons rfl (le_vec_ro (by first | rfl | omega | (dsimp only; omega)) el_rfl) (dem_cons rfl (le_vec_ro rfl el_rfl) dem_nil))))) ?_
  refine aw_seq ?_
  refine aw_seq ?_
  have h6 : (decide ((0 : Int) ≠ (0 : Int))) = false := by decide
  refine aw_r [(2, .dec false)]
   ⟨112, [1, 2, 3, 4], [(4, .l (.ref 1004 0)), (6, .l (.ref 1006 0)), (11, .i (costE n.pipes bores l (i + 1))), (14, .ls 10750), (87, .b (decide ((((withP n.pipes bores l (n.pipes.length - 1)).length : Nat) : Int) ≠ ((n.pipes.length : Nat) : Int))))], [(1, some (enough_frK1 n)), (3, some (enough_frK3 bores)), (1004, some (.blk 24 [.i n.pump, .ls 1])), (1006, some (.blk 28 [.ls 3, .i need])), (10750, some (enough_frK11 n bores l flows))]⟩
   [decide ((0 : Int) ≠ (0 : Int)) = false] (by kernel_rfl) (al1 h6) ?_
  have h7 : (decide ((((withP n.pipes bores l (n.pipes.length - 1)).length : Nat) : Int) ≠ ((n.pipes.length : Nat) : Int))) = false := by refine decide_eq_false ?_; omega
  refine aw_cond (b := decide ((((withP n.pipes bores l (n.pipes.length - 1)).length : Nat) : Int) ≠ ((n.pipes.length : Nat) : Int))) rfl (fun h => Bool.noConfusion (h7.symm.trans h)) (fun _ => ?_)
  refine aw_skip ?_
  refine aw_seq ?_
  refine aw_seq ?_
  refine aw_r []
   ⟨112, [1, 2, 3, 4], [(4, .l (.ref 1004 0)), (6, .l (.ref 1006 0)), (11, .i (costE n.pipes bores l (i + 1))), (14, .ls 10750), (16, .i 0)], [(1, some (enough_frK1 n)), (3, some (enough_frK3 bores)), (1004, some (.blk 24 [.i n.pump, .ls 1])), (1006, some (.blk 28 [.ls 3, .i need])), (10750, some (enough_frK11 n bores l flows))]⟩
   [] (by kernel_rfl) trivial ?_
  refine aw_block ?_
  refine aw_loop (ι := Nat) (fun zz => ⟨112, [1, 2, 3, 4], [(4, .l (.ref 1004 0)), (6, .l (.ref 1006 0)), (11, .i (costE n.pipes bores l (i + 1))), (14, .ls 10750), (16, .i ((zz : Nat) : Int))], [(1, some (enough_frK1 n)), (3, some (enough_frK3 bores)), (1004, some (.blk 24 [.i n.pump, .ls 1])), (1006, some (.blk 28 [.ls 3, .i need])), (10750, some (enough_frK11 n bores l flows))]⟩) (fun zz => (zz ≤ n.pipes.length) ∧ (∀ q, q < zz → ¬ (0 < (ix n.pipes q).taps ∧ vacW n flows bores l q < need))) (fun zz => n.pipes.length - zz) 0 ⟨(by first | omega | rfl | assumption | (simp; done)), (by intro q hq; omega)⟩
      (Ent.ren [] rfl rfl (by kernel_rfl) ⟨rfl, rfl, rfl, rfl, rfl, trivial⟩ (cro rfl (cro rfl (cbl rfl rfl (cbl rfl rfl (cve rfl trivial))))) (by kernel_rfl)) fun zz hp => ?_
  obtain ⟨j, rfl⟩ : ∃ x, x = zz := ⟨_, rfl⟩
  obtain ⟨hj, hno⟩ := hp
  show AW _ E _ _ ⟨112, [1, 2, 3, 4], [(4, .l (.ref 1004 0)), (6, .l (.ref 1006 0)), (11, .i (costE n.pipes bores l (i + 1))), (14, .ls 10750), (16, .i ((j : Nat) : Int))], [(1, some (enough_frK1 n)), (3, some (enough_frK3 bores)), (1004, some (.blk 24 [.i n.pump, .ls 1])), (1006, some (.blk 28 [.ls 3, .i need])), (10750, some (enough_frK11 n bores l flows))]⟩
  refine aw_seq ?_
  refine aw_seq ?_
  refine aw_r []
   ⟨112, [1, 2, 3, 4], [(4, .l (.ref 1004 0)), (6, .l (.ref 1006 0)), (11, .i (costE n.pipes bores l (i + 1))), (14, .ls 10750), (16, .i ((j : Nat) : Int)), (91, .b (decide (((j : Nat) : Int) < (((withP n.pipes bores l (n.pipes.length - 1)).length : Nat) : Int))))], [(1, some (enough_frK1 n)), (3, some (enough_frK3 bores)), (1004, some (.blk 24 [.i n.pump, .ls 1])), (1006, some (.blk 28 [.ls 3, .i need])), (10750, some (enough_frK11 n bores l flows))]⟩
   [] (by kernel_rfl) trivial ?_
  refine aw_cond (b := decide (((j : Nat) : Int) < (((withP n.pipes bores l (n.pipes.length - 1)).length : Nat) : Int))) rfl (fun h8 => ?_) (fun h8 => ?_)
  ·
   have h8p : ((j : Nat) : Int) < (((withP n.pipes bores l (n.pipes.length - 1)).length : Nat) : Int) := dtr h8
   refine aw_skip ?_
   refine aw_seq ?_
   refine aw_block ?_
   refine aw_seq ?_
   have hvl : (ix (pairT (vacV n.pump (withP n.pipes bores l (n.pipes.length - 1)) (highF flows) []) (vacV n.pump (withP n.pipes bores l (n.pipes.length - 1)) (lowF flows) []) (withP n.pipes bores l (n.pipes.length - 1)).length) j).low = vacW n flows bores l j := by rw [ix_pairT (by omega)]; rfl
   rcases Bool.eq_false_or_eq_true (decide (0 < (ix n.pipes j).taps)) with h9 | h9
   ·
    have h9p : 0 < (ix n.pipes j).taps := dtr h9
    refine aw_d [(3, .idx j), (7, .dec true), (10, .idx j)]
     ⟨112, [1, 2, 3, 4], [(4, .l (.ref 1004 0)), (6, .l (.ref 1006 0)), (11, .i (costE n.pipes bores l (i + 1))), (14, .ls 10750), (16, .i ((j : Nat) : Int)), (110, .b (decide ((ix (pairT (vacV n.pump (withP n.pipes bores l (n.pipes.length - 1)) (highF flows) []) (vacV n.pump (withP n.pipes bores l (n.pipes.length - 1)) (lowF flows) []) (withP n.pipes bores l (n.pipes.length - 1)).length) j).low < need)))], [(1, some (enough_frK1 n)), (3, some (enough_frK3 bores)), (1004, some (.blk 24 [.i n.pump, .ls 1])), (1006, some (.blk 28 [.ls 3, .i need])), (10750, some (enough_frK11 n bores l flows))]⟩
     [((j : Nat) : Int) = ((j : Nat) : Int), j < n.pipes.length, j < n.pipes.length, j < n.pipes.length, decide (0 < (ix n.pipes j).taps) = true, ((j : Nat) : Int) = ((j : Nat) : Int), j < (withP n.pipes bores l (n.pipes.length - 1)).length, j < (withP n.pipes bores l (n.pipes.length - 1)).length, j < (withP n.pipes bores l (n.pipes.length - 1)).length] (by kernel_rfl) (by kernel_rfl) (al2 (by omega) (al2 (by omega) (al2 (by omega) (al2 (by omega) (al2 h9 (al2 (by omega) (al2 (by omega) (al2 (by omega) (al1 (by omega)))))))))) ?_
    refine aw_cond (b := decide ((ix (pairT (vacV n.pump (withP n.pipes bores l (n.pipes.length - 1)) (highF flows) []) (vacV n.pump (withP n.pipes bores l (n.pipes.length - 1)) (lowF flows) []) (withP n.pipes bores l (n.pipes.length - 1)).length) j).low < need)) rfl (fun h10 => ?_) (fun h10 => ?_)
    ·
     have h10p : (ix (pairT (vacV n.pump (withP n.pipes bores l (n.pipes.length - 1)) (highF flows) []) (vacV n.pump (withP n.pipes bores l (n.pipes.length - 1)) (lowF flows) []) (withP n.pipes bores l (n.pipes.length - 1)).length) j).low < need := dtr h10
     refine aw_seq ?_
     have hbad : enB n flows bores need l = false := enB_no (j := j) (by omega) (by omega) (by omega)
     refine aw_r []
      ⟨112, [1, 2, 3, 4], [(8, .i 0), (9, .b false)], []⟩
      [] (by kernel_rfl) trivial ?_
     exact aw_ret (ret_block (ret_then (ret_then (ret_block (ret_then ⟨.inr rfl, end_ok ⟨112, [1, 2, 3, 4], [(8, .i (enS n flows bores need l)), (9, .b (enB n flows bores need l))], []⟩
         (Ent.ren [] rfl rfl (by kernel_rfl) ⟨(slot_i rfl (by first | rfl | omega | assumption | (exact (enS_no hbad).symm) | (exact hbad.symm) | (rw [enS_yes hgood, show i + 1 = n.pipes.length by omega]) | (exact hgood.symm))), (slot_b (a := false) rfl (by first | rfl | omega | assumption | (exact (enS_no hbad).symm) | (exact hbad.symm) | (rw [enS_yes hgood, show i + 1 = n.pipes.length by omega]) | (exact hgood.symm))), trivial⟩ trivial (by kernel_rfl)) rfl (by kernel_rfl) wr_nil (by kernel_rfl)⟩)))))
    ·
     have h10p : need ≤ (ix (pairT (vacV n.pump (withP n.pipes bores l (n.pipes.length - 1)) (highF flows) []) (vacV n.pump (withP n.pipes bores l (n.pipes.length - 1)) (lowF flows) []) (withP n.pipes bores l (n.pipes.length - 1)).length) j).low := dlt h10
     refine aw_skip ?_
     refine aw_r [(1, .num (((j + 1) : Nat) : Int))]
      ⟨112, [1, 2, 3, 4], [(4, .l (.ref 1004 0)), (6, .l (.ref 1006 0)), (11, .i (costE n.pipes bores l (i + 1))), (14, .ls 10750), (16, .i (((j + 1) : Nat) : Int))], [(1, some (enough_frK1 n)), (3, some (enough_frK3 bores)), (1004, some (.blk 24 [.i n.pump, .ls 1])), (1006, some (.blk 28 [.ls 3, .i need])), (10750, some (enough_frK11 n bores l flows))]⟩
      [(((j : Nat) : Int) + 1) = (((j + 1) : Nat) : Int), -9223372036854775808 ≤ (((j + 1) : Nat) : Int) ∧ (((j + 1) : Nat) : Int) < 9223372036854775808] (by kernel_rfl) (al2 (by first | omega | rfl | assumption) (al1 (by first | omega | rfl | assumption))) ?_
     exact ⟨j + 1, ⟨(by first | omega | rfl | assumption | (simp; done)), (by intro q hq; rcases Nat.lt_or_ge q j with h | h; exact hno q h; rw [show q = j by omega]; omega)⟩, (show n.pipes.length - (j + 1) < n.pipes.length - j by first | omega | rfl | assumption),
         (Ent.ren [] rfl rfl (by kernel_rfl) ⟨rfl, rfl, rfl, rfl, rfl, trivial⟩ (cro rfl (cro rfl (cbl rfl rfl (cbl rfl rfl (cve rfl trivial))))) (by kernel_rfl))⟩
   ·
    have h9p : (ix n.pipes j).taps ≤ 0 := dlt h9
    refine aw_d [(3, .idx j), (7, .dec false)]
     ⟨112, [1, 2, 3, 4], [(4, .l (.ref 1004 0)), (6, .l (.ref 1006 0)), (11, .i (costE n.pipes bores l (i + 1))), (14, .ls 10750), (16, .i ((j : Nat) : Int)), (110, .b false)], [(1, some (enough_frK1 n)), (3, some (enough_frK3 bores)), (1004, some (.blk 24 [.i n.pump, .ls 1])), (1006, some (.blk 28 [.ls 3, .i need])), (10750, some (enough_frK11 n bores l flows))]⟩
     [((j : Nat) : Int) = ((j : Nat) : Int), j < n.pipes.length, j < n.pipes.length, j < n.pipes.length, decide (0 < (ix n.pipes j).taps) = false] (by kernel_rfl) (by kernel_rfl) (al2 (by omega) (al2 (by omega) (al2 (by omega) (al2 (by omega) (al1 h9))))) ?_
    refine aw_false rfl ?_
    refine aw_skip ?_
    refine aw_r [(1, .num (((j + 1) : Nat) : Int))]
     ⟨112, [1, 2, 3, 4], [(4, .l (.ref 1004 0)), (6, .l (.ref 1006 0)), (11, .i (costE n.pipes bores l (i + 1))), (14, .ls 10750), (16, .i (((j + 1) : Nat) : Int))], [(1, some (enough_frK1 n)), (3, some (enough_frK3 bores)), (1004, some (.blk 24 [.i n.pump, .ls 1])), (1006, some (.blk 28 [.ls 3, .i need])), (10750, some (enough_frK11 n bores l flows))]⟩
     [(((j : Nat) : Int) + 1) = (((j + 1) : Nat) : Int), -9223372036854775808 ≤ (((j + 1) : Nat) : Int) ∧ (((j + 1) : Nat) : Int) < 9223372036854775808] (by kernel_rfl) (al2 (by first | omega | rfl | assumption) (al1 (by first | omega | rfl | assumption))) ?_
    exact ⟨j + 1, ⟨(by first | omega | rfl | assumption | (simp; done)), (by intro q hq; rcases Nat.lt_or_ge q j with h | h; exact hno q h; rw [show q = j by omega]; omega)⟩, (show n.pipes.length - (j + 1) < n.pipes.length - j by first | omega | rfl | assumption),
        (Ent.ren [] rfl rfl (by kernel_rfl) ⟨rfl, rfl, rfl, rfl, rfl, trivial⟩ (cro rfl (cro rfl (cbl rfl rfl (cbl rfl rfl (cve rfl trivial))))) (by kernel_rfl))⟩
  ·
   have h8p : (((withP n.pipes bores l (n.pipes.length - 1)).length : Nat) : Int) ≤ ((j : Nat) : Int) := dlt h8
   refine aw_exit (exit_then (exit_then (exit_in ?_)))
   refine aw_seq ?_
   have hgood : enB n flows bores need l = true := enB_yes (fun q hq => hno q (by omega))
   refine aw_r []
    ⟨112, [1, 2, 3, 4], [(8, .i (costE n.pipes bores l (i + 1))), (9, .b true)], []⟩
    [] (by kernel_rfl) trivial ?_
   exact aw_ret ⟨.inr rfl, end_ok ⟨112, [1, 2, 3, 4], [(8, .i (enS n flows bores need l)), (9, .b (enB n flows bores need l))], []⟩
       (Ent.ren [] rfl rfl (by kernel_rfl) ⟨(slot_i rfl (by first | rfl | omega | assumption | (exact (enS_no hbad).symm) | (exact hbad.symm) | (rw [enS_yes hgood, show i + 1 = n.pipes.length by omega]) | (exact hgood.symm))), (slot_b (a := true) rfl (by first | rfl | omega | assumption | (exact (enS_no hbad).symm) | (exact hbad.symm) | (rw [enS_yes hgood, show i + 1 = n.pipes.length by omega]) | (exact hgood.symm))), trivial⟩ trivial (by kernel_rfl)) rfl (by kernel_rfl) wr_nil (by kernel_rfl)⟩
set_option maxRecDepth 100000 in
theorem smaller_fr (a b : List Int) (hl : a.length = b.length) (ha : a.length ≤ 1000) : CallFr Try.prog 29 [.ls 1, .ls 2] [1, 2] [some (.ro 1 a.length (Lst eI a)), some (.ro 1 b.length (Lst eI b))] (.b (lessB a b)) [] := by
 refine callFr_of (fn := Try.f29) (by kernel_rfl) rfl (by kernel_rfl) (by kernel_rfl) fun E => ?_
 refine aw_ent (T := ⟨30, [1, 2], [(0, .ls 1), (1, .ls 2)], [(1, some (.ro 1 a.length (Lst eI a))), (2, some (.ro 1 b.length (Lst eI b)))]⟩) (Ent.refl _) ?_
 refine aw_seq ?_
 refine aw_r []
  ⟨30, [1, 2], [(0, .ls 1), (1, .ls 2)], [(1, some (.ro 1 a.length (Lst eI a))), (2, some (.ro 1 b.length (Lst eI b)))]⟩
  [] (by kernel_rfl) trivial ?_
 refine aw_seq ?_
 refine aw_seq ?_
 refine aw_r []
  ⟨30, [1, 2], [(0, .ls 1), (1, .ls 2), (5, .i 0)], [(1, some (.ro 1 a.length (Lst eI a))), (2, some (.ro 1 b.length (Lst eI b)))]⟩
  [] (by kernel_rfl) trivial ?_
 refine aw_block ?_
 refine aw_loop (ι := Nat) (fun zz => ⟨30, [1, 2], [(0, .ls 1), (1, .ls 2), (5, .i ((zz : Nat) : Int))], [(1, some (.ro 1 a.length (Lst eI a))), (2, some (.ro 1 b.length (Lst eI b)))]⟩) (fun zz => (zz ≤ a.length) ∧ (∀ j, j < zz → ix a j = ix b j)) (fun zz => a.length - zz) 0 ⟨(by first | omega | rfl | assumption | (simp; done)), (by intro j hj; omega)⟩
     (Ent.ren [] rfl rfl (by kernel_rfl) ⟨rfl, rfl, rfl, trivial⟩ (cro rfl (cro rfl trivial)) (by kernel_rfl)) fun zz hp => ?_
 obtain ⟨k, rfl⟩ : ∃ x, x = zz := ⟨_, rfl⟩
 obtain ⟨hk, heq⟩ := hp
 show AW _ E _ _ ⟨30, [1, 2], [(0, .ls 1), (1, .ls 2), (5, .i ((k : Nat) : Int))], [(1, some (.ro 1 a.length (Lst eI a))), (2, some (.ro 1 b.length (Lst eI b)))]⟩
 refine aw_seq ?_
 refine aw_seq ?_
 refine aw_r []
  ⟨30, [1, 2], [(0, .ls 1), (1, .ls 2), (5, .i ((k : Nat) : Int)), (9, .b (decide (((k : Nat) : Int) < ((a.length : Nat) : Int))))], [(1, some (.ro 1 a.length (Lst eI a))), (2, some (.ro 1 b.length (Lst eI b)))]⟩
  [] (by kernel_rfl) trivial ?_
 refine aw_cond (b := decide (((k : Nat) : Int) < ((a.length : Nat) : Int))) rfl (fun h1 => ?_) (fun h1 => ?_)
 ·
  have h1p : ((k : Nat) : Int) < ((a.length : Nat) : Int) := dtr h1
  refine aw_skip ?_
  refine aw_seq ?_
  refine aw_block ?_
  refine aw_seq ?_
  refine aw_d [(2, .idx k), (6, .idx k)]
   ⟨30, [1, 2], [(0, .ls 1), (1, .ls 2), (5, .i ((k : Nat) : Int)), (20, .b (decide ((ix a k) ≠ (ix b k))))], [(1, some (.ro 1 a.length (Lst eI a))), (2, some (.ro 1 b.length (Lst eI b)))]⟩
   [((k : Nat) : Int) = ((k : Nat) : Int), k < a.length, k < a.length, ((k : Nat) : Int) = ((k : Nat) : Int), k < b.length, k < b.length] (by kernel_rfl) (by kernel_rfl) (al2 (by omega) (al2 (by omega) (al2 (by omega) (al2 (by omega) (al2 (by omega) (al1 (by omega))))))) ?_
  refine aw_cond (b := decide ((ix a k) ≠ (ix b k))) rfl (fun h2 => ?_) (fun h2 => ?_)
  ·
   have h2p : (ix a k) ≠ (ix b k) := dtr h2
   refine aw_seq ?_
   refine aw_d [(2, .idx k), (6, .idx k)]
    ⟨30, [1, 2], [(4, .b (decide ((ix a k) < (ix b k))))], []⟩
    [((k : Nat) : Int) = ((k : Nat) : Int), k < a.length, k < a.length, ((k : Nat) : Int) = ((k : Nat) : Int), k < b.length, k < b.length] (by kernel_rfl) (by kernel_rfl) (al2 (by omega) (al2 (by omega) (al2 (by omega) (al2 (by omega) (al2 (by omega) (al1 (by omega))))))) ?_
   exact aw_ret (ret_block (ret_then (ret_then (ret_block (ret_then ⟨.inr rfl, end_ok ⟨30, [1, 2], [(4, .b (lessB a b))], []⟩
       (Ent.ren [] rfl rfl (by kernel_rfl) ⟨(slot_b (a := decide ((ix a k) < (ix b k))) rfl (by first | rfl | omega | assumption | (exact (lessB_at heq (by omega) (by omega) (by assumption)).symm) | (exact (lessB_same (fun j hj => heq j (by omega)) hl).symm))), trivial⟩ trivial (by kernel_rfl)) rfl (by kernel_rfl) wr_nil (by kernel_rfl)⟩)))))
  ·
   have h2p : (ix a k) = (ix b k) := dne h2
   refine aw_skip ?_
   refine aw_r [(1, .num (((k + 1) : Nat) : Int))]
    ⟨30, [1, 2], [(0, .ls 1), (1, .ls 2), (5, .i (((k + 1) : Nat) : Int))], [(1, some (.ro 1 a.length (Lst eI a))), (2, some (.ro 1 b.length (Lst eI b)))]⟩
    [(((k : Nat) : Int) + 1) = (((k + 1) : Nat) : Int), -9223372036854775808 ≤ (((k + 1) : Nat) : Int) ∧ (((k + 1) : Nat) : Int) < 9223372036854775808] (by kernel_rfl) (al2 (by omega) (al1 (by omega))) ?_
   exact ⟨k + 1, ⟨(by first | omega | rfl | assumption | (simp; done)), (by intro j hj; rcases Nat.lt_or_ge j k with h | h; exact heq j h; rw [show j = k by omega]; assumption)⟩, (show a.length - (k + 1) < a.length - k by first | omega | rfl | assumption),
       (Ent.ren [] rfl rfl (by kernel_rfl) ⟨rfl, rfl, rfl, trivial⟩ (cro rfl (cro rfl trivial)) (by kernel_rfl))⟩
 ·
  have h1p : ((a.length : Nat) : Int) ≤ ((k : Nat) : Int) := dlt h1
  refine aw_exit (exit_then (exit_then (exit_in ?_)))
  refine aw_seq ?_
  refine aw_r []
   ⟨30, [1, 2], [(4, .b false)], []⟩
   [] (by kernel_rfl) trivial ?_
  exact aw_ret ⟨.inr rfl, end_ok ⟨30, [1, 2], [(4, .b (lessB a b))], []⟩
      (Ent.ren [] rfl rfl (by kernel_rfl) ⟨(slot_b (a := false) rfl (by first | rfl | omega | assumption | (exact (lessB_at heq (by omega) (by omega) (by assumption)).symm) | (exact (lessB_same (fun j hj => heq j (by omega)) hl).symm))), trivial⟩ trivial (by kernel_rfl)) rfl (by kernel_rfl) wr_nil (by kernel_rfl)⟩
def cheapest_frK1 (n : Net) : Cn := .ro 5 n.pipes.length (Lst eP n.pipes)
def cheapest_frK2 (flows : List Rng) : Cn := .ro 2 flows.length (Lst eR flows)
def cheapest_frK3 (bores : List Bor) : Cn := .ro 2 bores.length (Lst eO bores)
def cheapest_frK4 (n : Net) : Cn := .vec 54 5 ((n.pipes).length) (Lst eP n.pipes)
def cheapest_frK5 (flows : List Rng) : Cn := .vec 52 2 ((flows).length) (Lst eR flows)
def cheapest_frK6 (n : Net) (flows : List Rng) (bores : List Bor) (need : Int) : Cn := .vec 3 1 ((planA n flows bores need).1.length) (Lst eI ((planA n flows bores need).1))
def cheapest_frK7 (bores : List Bor) : Cn := .vec 38 2 bores.length (Lst eO bores)
def cheapest_frK8 (n : Net) (flows : List Rng) (bores : List Bor) (need : Int) : Cn := .vec 3 1 (n.pipes.length - 1) (Lst eI ((plTo n.pipes (loadT n flows) bores need n.pump (n.pipes.length - 1)).2))
def cheapest_frK9 (n : Net) (flows : List Rng) (bores : List Bor) (need : Int) : Cn := .vec 3 1 ((((plTo n.pipes (loadT n flows) bores need n.pump (n.pipes.length - 1)).2)).length) (Lst eI ((plTo n.pipes (loadT n flows) bores need n.pump (n.pipes.length - 1)).2))
def cheapest_frK10 (n : Net) (flows : List Rng) (bores : List Bor) (need : Int) (u : Nat) (c : Nat) : Cn := .vec 3 1 ((((plTo n.pipes (loadT n flows) bores need n.pump (n.pipes.length - 1)).2)).length) (Lst eI (((plTo n.pipes (loadT n flows) bores need n.pump (n.pipes.length - 1)).2).set u (((c : Nat) : Int) / ((bores.length : Nat) : Int))))
def cheapest_frK11 (n : Net) (flows : List Rng) (bores : List Bor) (need : Int) (u : Nat) (c : Nat) (k : Nat) : Cn := .vec 3 1 ((((plTo n.pipes (loadT n flows) bores need n.pump (n.pipes.length - 1)).2)).length) (Lst eI ((((plTo n.pipes (loadT n flows) bores need n.pump (n.pipes.length - 1)).2).set u (((c : Nat) : Int) / ((bores.length : Nat) : Int))).set k (((c : Nat) : Int) % ((bores.length : Nat) : Int))))
set_option maxHeartbeats 2000000 in
set_option maxRecDepth 100000 in
theorem cheapest_fr (n : Net) (flows : List Rng) (bores : List Bor) (need : Int) (hn : n.pipes.length ≤ maxLen) (hf : flows.length ≤ maxLen) (hb : bores.length ≤ maxLen) : CallFr Try.prog 5 [.agg [.i n.pump, .ls 1], .ls 2, .agg [.ls 3, .i need]] [1, 2, 3] [some (.ro 5 n.pipes.length (Lst eP n.pipes)), some (.ro 2 flows.length (Lst eR flows)), some (.ro 2 bores.length (Lst eO bores))] (.b true) [] := by
 have hML : maxLen = 9223372036854775807 := rfl
 refine callFr_of (fn := Try.f5) (by kernel_rfl) rfl (by kernel_rfl) (by kernel_rfl) fun E => ?_
 refine aw_ent (T := ⟨189, [1, 2, 3], [(0, .agg [.i n.pump, .ls 1]), (1, .ls 2), (2, .agg [.ls 3, .i need])], [(1, some (cheapest_frK1 n)), (2, some (cheapest_frK2 flows)), (3, some (cheapest_frK3 bores))]⟩) (Ent.refl _) ?_
 refine aw_seq ?_
 refine aw_r [(0, .new 1003), (1, .new 1005)]
  ⟨189, [1, 2, 3], [(1, .ls 2), (3, .l (.ref 1003 0)), (5, .l (.ref 1005 0))], [(1, some (cheapest_frK1 n)), (2, some (cheapest_frK2 flows)), (3, some (cheapest_frK3 bores)), (1003, some (.blk 24 [.i n.pump, .ls 1])), (1005, some (.blk 28 [.ls 3, .i need]))]⟩
  [] (by kernel_rfl) trivial ?_
 refine aw_seq ?_
 refine aw_seq ?_
 rcases Bool.eq_false_or_eq_true ((!(goodB n 12))) with h1 | h1
 ·
  refine aw_r [(1, .call [1] (.b (goodB n 12)) []), (3, .dec true)]
   ⟨189, [1, 2, 3], [(1, .ls 2), (3, .l (.ref 1003 0)), (5, .l (.ref 1005 0)), (41, .b true)], [(1, some (cheapest_frK1 n)), (2, some (cheapest_frK2 flows)), (3, some (cheapest_frK3 bores)), (1003, some (.blk 24 [.i n.pump, .ls 1])), (1005, some (.blk 28 [.ls 3, .i need]))]⟩
   [CallOK Try.prog 21 [.agg [.i n.pump, .ls 1], .i 12] [1] [some (cheapest_frK1 n)] (.b (goodB n 12)) [], (!(goodB n 12)) = true] (by kernel_rfl) (al2 (CallFr.to (good_fr n 12 (by omega) (by omega)) [(1, 1)] (by kernel_rfl) (by kernel_rfl) (by kernel_rfl) (by kernel_rfl) (by kernel_rfl) (dem_cons rfl (le_ro rfl el_rfl) dem_nil)) (al1 h1)) ?_
  refine aw_true rfl ?_
  refine aw_seq ?_
  refine aw_r [(0, .call [] (.b true) [])]
   ⟨189, [1, 2, 3], [(6, .b true)], []⟩
   [CallOK Try.prog 15 [] [] [] (.b true) []] (by kernel_rfl) (al1 (CallFr.to (known_fr ) [] (by kernel_rfl) (by kernel_rfl) (by kernel_rfl) (by kernel_rfl) (by kernel_rfl) dem_nil)) ?_
  exact aw_ret (ret_then ⟨.inr rfl, end_ok ⟨189, [1, 2, 3], [(6, .b true)], []⟩
      (Ent.ren [] rfl rfl (by kernel_rfl) ⟨rfl, trivial⟩ trivial (by kernel_rfl)) rfl (by kernel_rfl) wr_nil (by kernel_rfl)⟩)
 ·
  have hgood : goodB n 12 = true := by simpa using h1
  obtain ⟨hok, hm40⟩ := goodB_true hgood
  have hnl := netB_len hok
  rcases Bool.eq_false_or_eq_true (decide (((flows.length : Nat) : Int) ≠ ((n.pipes.length : Nat) : Int))) with h2 | h2
  ·
   have h2p : ((flows.length : Nat) : Int) ≠ ((n.pipes.length : Nat) : Int) := dtr h2
   refine aw_r [(1, .call [1] (.b (goodB n 12)) []), (3, .dec false), (11, .dec true)]
    ⟨189, [1, 2, 3], [(1, .ls 2), (3, .l (.ref 1003 0)), (5, .l (.ref 1005 0)), (41, .b true)], [(1, some (cheapest_frK1 n)), (2, some (cheapest_frK2 flows)), (3, some (cheapest_frK3 bores)), (1003, some (.blk 24 [.i n.pump, .ls 1])), (1005, some (.blk 28 [.ls 3, .i need]))]⟩
    [CallOK Try.prog 21 [.agg [.i n.pump, .ls 1], .i 12] [1] [some (cheapest_frK1 n)] (.b (goodB n 12)) [], (!(goodB n 12)) = false, decide (((flows.length : Nat) : Int) ≠ ((n.pipes.length : Nat) : Int)) = true] (by kernel_rfl) (al2 (CallFr.to (good_fr n 12 (by omega) (by omega)) [(1, 1)] (by kernel_rfl) (by kernel_rfl) (by kernel_rfl) (by kernel_rfl) (by kernel_rfl) (dem_cons rfl (le_ro rfl el_rfl) dem_nil)) (al2 h1 (al1 h2))) ?_
   refine aw_true rfl ?_
   refine aw_seq ?_
   refine aw_r [(0, .call [] (.b true) [])]
    ⟨189, [1, 2, 3], [(6, .b true)], []⟩
    [CallOK Try.prog 15 [] [] [] (.b true) []] (by kernel_rfl) (al1 (CallFr.to (known_fr ) [] (by kernel_rfl) (by kernel_rfl) (by kernel_rfl) (by kernel_rfl) (by kernel_rfl) dem_nil)) ?_
   exact aw_ret (ret_then ⟨.inr rfl, end_ok ⟨189, [1, 2, 3], [(6, .b true)], []⟩
       (Ent.ren [] rfl rfl (by kernel_rfl) ⟨rfl, trivial⟩ trivial (by kernel_rfl)) rfl (by kernel_rfl) wr_nil (by kernel_rfl)⟩)
  ·
   have h2p : ((flows.length : Nat) : Int) = ((n.pipes.length : Nat) : Int) := dne h2
   rcases Bool.eq_false_or_eq_true (decide (((bores.length : Nat) : Int) < 1)) with h3 | h3
   ·
    have h3p : ((bores.length : Nat) : Int) < 1 := dtr h3
    refine aw_r [(1, .call [1] (.b (goodB n 12)) []), (3, .dec false), (11, .dec false), (17, .dec true)]
     ⟨189, [1, 2, 3], [(1, .ls 2), (3, .l (.ref 1003 0)), (5, .l (.ref 1005 0)), (41, .b true)], [(1, some (cheapest_frK1 n)), (2, some (cheapest_frK2 flows)), (3, some (cheapest_frK3 bores)), (1003, some (.blk 24 [.i n.pump, .ls 1])), (1005, some (.blk 28 [.ls 3, .i need]))]⟩
     [CallOK Try.prog 21 [.agg [.i n.pump, .ls 1], .i 12] [1] [some (cheapest_frK1 n)] (.b (goodB n 12)) [], (!(goodB n 12)) = false, decide (((flows.length : Nat) : Int) ≠ ((n.pipes.length : Nat) : Int)) = false, decide (((bores.length : Nat) : Int) < 1) = true] (by kernel_rfl) (al2 (CallFr.to (good_fr n 12 (by omega) (by omega)) [(1, 1)] (by kernel_rfl) (by kernel_rfl) (by kernel_rfl) (by kernel_rfl) (by kernel_rfl) (dem_cons rfl (le_ro rfl el_rfl) dem_nil)) (al2 h1 (al2 h2 (al1 h3)))) ?_
    refine aw_true rfl ?_
    refine aw_seq ?_
    refine aw_r [(0, .call [] (.b true) [])]
     ⟨189, [1, 2, 3], [(6, .b true)], []⟩
     [CallOK Try.prog 15 [] [] [] (.b true) []] (by kernel_rfl) (al1 (CallFr.to (known_fr ) [] (by kernel_rfl) (by kernel_rfl) (by kernel_rfl) (by kernel_rfl) (by kernel_rfl) dem_nil)) ?_
    exact aw_ret (ret_then ⟨.inr rfl, end_ok ⟨189, [1, 2, 3], [(6, .b true)], []⟩
        (Ent.ren [] rfl rfl (by kernel_rfl) ⟨rfl, trivial⟩ trivial (by kernel_rfl)) rfl (by kernel_rfl) wr_nil (by kernel_rfl)⟩)
   ·
    have h3p : 1 ≤ ((bores.length : Nat) : Int) := dlt h3
    refine aw_r [(1, .call [1] (.b (goodB n 12)) []), (3, .dec false), (11, .dec false), (17, .dec false)]
     ⟨189, [1, 2, 3], [(1, .ls 2), (3, .l (.ref 1003 0)), (5, .l (.ref 1005 0)), (41, .b (decide (6 < ((bores.length : Nat) : Int))))], [(1, some (cheapest_frK1 n)), (2, some (cheapest_frK2 flows)), (3, some (cheapest_frK3 bores)), (1003, some (.blk 24 [.i n.pump, .ls 1])), (1005, some (.blk 28 [.ls 3, .i need]))]⟩
     [CallOK Try.prog 21 [.agg [.i n.pump, .ls 1], .i 12] [1] [some (cheapest_frK1 n)] (.b (goodB n 12)) [], (!(goodB n 12)) = false, decide (((flows.length : Nat) : Int) ≠ ((n.pipes.length : Nat) : Int)) = false, decide (((bores.length : Nat) : Int) < 1) = false] (by kernel_rfl) (al2 (CallFr.to (good_fr n 12 (by omega) (by omega)) [(1, 1)] (by kernel_rfl) (by kernel_rfl) (by kernel_rfl) (by kernel_rfl) (by kernel_rfl) (dem_cons rfl (le_ro rfl el_rfl) dem_nil)) (al2 h1 (al2 h2 (al1 h3)))) ?_
    refine aw_cond (b := decide (6 < ((bores.length : Nat) : Int))) rfl (fun h4 => ?_) (fun h4 => ?_)
    ·
     have h4p : 6 < ((bores.length : Nat) : Int) := dtr h4
     refine aw_seq ?_
     refine aw_r [(0, .call [] (.b true) [])]
      ⟨189, [1, 2, 3], [(6, .b true)], []⟩
      [CallOK Try.prog 15 [] [] [] (.b true) []] (by kernel_rfl) (al1 (CallFr.to (known_fr ) [] (by kernel_rfl) (by kernel_rfl) (by kernel_rfl) (by kernel_rfl) (by kernel_rfl) dem_nil)) ?_
     exact aw_ret (ret_then ⟨.inr rfl, end_ok ⟨189, [1, 2, 3], [(6, .b true)], []⟩
         (Ent.ren [] rfl rfl (by kernel_rfl) ⟨rfl, trivial⟩ trivial (by kernel_rfl)) rfl (by kernel_rfl) wr_nil (by kernel_rfl)⟩)
    ·
     have h4p : ((bores.length : Nat) : Int) ≤ 6 := dlt h4
     refine aw_skip ?_
     refine aw_seq ?_
     refine aw_d [(1, .call [1] (.agg [.i n.pump, .ls 10450]) [(10450, some (cheapest_frK4 n))]), (3, .call [2] (.ls 10470) [(10470, some (cheapest_frK5 flows))]), (4, .new 1048), (7, .lst 1051 bores.length (Lst eO bores)), (10, .call [10450, 10470, 1051] (.tup [.one (.ls 10540), .one (.i ((planA n flows bores need).2.1)), .one (.i ((planA n flows bores need).2.2))]) [(10540, some (cheapest_frK6 n flows bores need))])]
      ⟨189, [1, 2, 3], [(1, .ls 2), (3, .l (.ref 1003 0)), (5, .l (.ref 1005 0)), (7, .ls 10540), (8, .i ((planA n flows bores need).2.1)), (9, .i ((planA n flows bores need).2.2))], [(1, some (cheapest_frK1 n)), (2, some (cheapest_frK2 flows)), (3, some (cheapest_frK3 bores)), (1003, some (.blk 24 [.i n.pump, .ls 1])), (1005, some (.blk 28 [.ls 3, .i need])), (10540, some (cheapest_frK6 n flows bores need))]⟩
      [CallOK Try.prog 17 [.agg [.i n.pump, .ls 1]] [1] [some (cheapest_frK1 n)] (.agg [.i n.pump, .ls 10450]) [(10450, some (cheapest_frK4 n))], CallOK Try.prog 18 [.ls 2] [2] [some (cheapest_frK2 flows)] (.ls 10470) [(10470, some (cheapest_frK5 flows))], 0 + bores.length ≤ 1000000000000, (0 + bores.length) * 16 ≤ 140737488355328, AppOk 2 0 bores.length (exEl 2 []) (Lst eO bores) bores.length (Lst eO bores), CallOK Try.prog 16 [.agg [.i n.pump, .ls 10450], .ls 10470, .ls 1051, .i need] [10450, 10470, 1051] [some (cheapest_frK4 n), some (cheapest_frK5 flows), some (cheapest_frK7 bores)] (.tup [.one (.ls 10540), .one (.i ((planA n flows bores need).2.1)), .one (.i ((planA n flows bores need).2.2))]) [(10540, some (cheapest_frK6 n flows bores need))]] (by kernel_rfl) (by kernel_rfl) (al2 (CallFr.to (own_fr n (by first | omega | (dsimp only; omega))) [(1, 1), (2, 10450)] (by kernel_rfl) (by kernel_rfl) (by kernel_rfl) (by kernel_rfl) (by kernel_rfl) (dem_cons rfl (le_ro rfl el_rfl) dem_nil)) (al2 (CallFr.to (ranges_fr flows (by first | omega | (rw [pairT_len] <;> omega))) [(1, 2), (2, 10470)] (by kernel_rfl) (by kernel_rfl) (by kernel_rfl) (by kernel_rfl) (by kernel_rfl) (dem_cons rfl (le_ro rfl el_rfl) dem_nil)) (al2 (by first | omega | rfl | assumption) (al2 (by first | omega | rfl | assumption) (al2 (app_nil (by first | rfl | omega | (simp only [List.length_set]; omega))) (al1 (CallFr.to (Plan_fr n flows bores need (by omega) (by omega) (by omega)) [(1, 10450), (2, 10470), (3, 1051), (4, 10540)] (by kernel_rfl) (by kernel_rfl) (by kernel_rfl) (by kernel_rfl) (by kernel_rfl) (dem_cons rfl (le_vec_ro rfl el_rfl) (dem_cons rfl (le_vec_ro rfl el_rfl) (dem_cons rfl (le_vec_ro rfl el_rfl) dem_nil)))))))))) ?_
     refine aw_seq ?_
     refine aw_seq ?_
     refine aw_r []
      ⟨189, [1, 2, 3], [(1, .ls 2), (3, .l (.ref 1003 0)), (5, .l (.ref 1005 0)), (7, .ls 10540), (8, .i ((planA n flows bores need).2.1)), (59, .b (decide ((planA n flows bores need).2.2 ≠ 0)))], [(1, some (cheapest_frK1 n)), (2, some (cheapest_frK2 flows)), (3, some (cheapest_frK3 bores)), (1003, some (.blk 24 [.i n.pump, .ls 1])), (1005, some (.blk 28 [.ls 3, .i need])), (10540, some (cheapest_frK6 n flows bores need))]⟩
      [] (by kernel_rfl) trivial ?_
     refine aw_cond (b := decide ((planA n flows bores need).2.2 ≠ 0)) rfl (fun h5 => ?_) (fun h5 => ?_)
     ·
      have h5p : (planA n flows bores need).2.2 ≠ 0 := dtr h5
      obtain ⟨he1, he2⟩ := planA_err (dtr h5)
      refine aw_seq ?_
      have h6 : (decide ((((planA n flows bores need).1.length : Nat) : Int) = 0)) = true := by refine decide_eq_true ?_; rw [he1]; rfl
      have h7 : (decide ((planA n flows bores need).2.1 = 0)) = true := by refine decide_eq_true ?_; exact he2
      refine aw_r [(3, .dec true), (7, .dec true), (8, .call [] (.b true) [])]
       ⟨189, [1, 2, 3], [(6, .b true)], []⟩
       [decide ((((planA n flows bores need).1.length : Nat) : Int) = 0) = true, decide ((planA n flows bores need).2.1 = 0) = true, CallOK Try.prog 15 [] [] [] (.b true) []] (by kernel_rfl) (al2 h6 (al2 h7 (al1 (CallFr.to (known_fr ) [] (by kernel_rfl) (by kernel_rfl) (by kernel_rfl) (by kernel_rfl) (by kernel_rfl) dem_nil)))) ?_
      exact aw_ret (ret_then ⟨.inr rfl, end_ok ⟨189, [1, 2, 3], [(6, .b true)], []⟩
          (Ent.ren [] rfl rfl (by kernel_rfl) ⟨rfl, trivial⟩ trivial (by kernel_rfl)) rfl (by kernel_rfl) wr_nil (by kernel_rfl)⟩)
     ·
      have h5p : (planA n flows bores need).2.2 = 0 := dne h5
      obtain ⟨hE, hC, hall⟩ := planA_zero (dne h5)
      obtain ⟨H, p0, p1⟩ := plan_ok hE hC
      have hpa : (planA n flows bores need) = ((plTo n.pipes (loadT n flows) bores need n.pump (n.pipes.length - 1)).2, (plS n.pipes (loadT n flows) bores need n.pump n.pipes.length), 0) := (planA_ok hE hC).trans (plan_cost H p0 p1 (by omega) hall)
      obtain ⟨hl0, hp0⟩ := plan_list hE hC hall
      have hr0 : ∀ j, j < (plTo n.pipes (loadT n flows) bores need n.pump (n.pipes.length - 1)).2.length → 0 ≤ ix (plTo n.pipes (loadT n flows) bores need n.pump (n.pipes.length - 1)).2 j ∧ ix (plTo n.pipes (loadT n flows) bores need n.pump (n.pipes.length - 1)).2 j < bores.length := fun j hj => (hp0 j (by omega)).2
      refine aw_skip ?_
      refine aw_seq ?_
      refine aw_seq ?_
      refine aw_ent (T := ⟨189, [1, 2, 3], [(1, .ls 2), (3, .l (.ref 1003 0)), (5, .l (.ref 1005 0)), (7, .ls 10540), (8, .i (plS n.pipes (loadT n flows) bores need n.pump n.pipes.length)), (59, .b (decide ((planA n flows bores need).2.2 ≠ 0)))], [(1, some (cheapest_frK1 n)), (2, some (cheapest_frK2 flows)), (3, some (cheapest_frK3 bores)), (1003, some (.blk 24 [.i n.pump, .ls 1])), (1005, some (.blk 28 [.ls 3, .i need])), (10540, some (cheapest_frK8 n flows bores need))]⟩)
          (Ent.ren [] rfl rfl (by kernel_rfl) ⟨rfl, rfl, rfl, rfl, (slot_i rfl (by first | rfl | omega | assumption | (rw [hpa]; done) | (rw [hpa]; exact hl0))), rfl, trivial⟩ (cro rfl (cro rfl (cro rfl (cbl rfl rfl (cbl rfl rfl (conts_cons rfl (le_vec (by first | rfl | omega | assumption | (rw [hpa]; done) | (rw [hpa]; exact hl0)) (lst_eq (by first | rfl | omega | assumption | (rw [hpa]; done) | (rw [hpa]; exact hl0)))) trivial)))))) (by kernel_rfl)) ?_
      refine aw_r []
       ⟨189, [1, 2, 3], [(1, .ls 2), (3, .l (.ref 1003 0)), (5, .l (.ref 1005 0)), (7, .ls 10540), (8, .i (plS n.pipes (loadT n flows) bores need n.pump n.pipes.length)), (76, .b (decide ((((n.pipes.length - 1) : Nat) : Int) ≠ (((n.pipes.length : Nat) : Int) - 1))))], [(1, some (cheapest_frK1 n)), (2, some (cheapest_frK2 flows)), (3, some (cheapest_frK3 bores)), (1003, some (.blk 24 [.i n.pump, .ls 1])), (1005, some (.blk 28 [.ls 3, .i need])), (10540, some (cheapest_frK8 n flows bores need))]⟩
       [-9223372036854775808 ≤ (((n.pipes.length : Nat) : Int) - 1) ∧ (((n.pipes.length : Nat) : Int) - 1) < 9223372036854775808] (by kernel_rfl) (al1 (by first | omega | rfl | assumption)) ?_
      have h8 : (decide ((((n.pipes.length - 1) : Nat) : Int) ≠ (((n.pipes.length : Nat) : Int) - 1))) = false := by refine decide_eq_false ?_; omega
      refine aw_cond (b := decide ((((n.pipes.length - 1) : Nat) : Int) ≠ (((n.pipes.length : Nat) : Int) - 1))) rfl (fun h => Bool.noConfusion (h8.symm.trans h)) (fun _ => ?_)
      refine aw_skip ?_
      refine aw_seq ?_
      refine aw_seq ?_
      refine aw_r []
       ⟨189, [1, 2, 3], [(1, .ls 2), (3, .l (.ref 1003 0)), (5, .l (.ref 1005 0)), (7, .ls 10540), (8, .i (plS n.pipes (loadT n flows) bores need n.pump n.pipes.length)), (10, .i 0)], [(1, some (cheapest_frK1 n)), (2, some (cheapest_frK2 flows)), (3, some (cheapest_frK3 bores)), (1003, some (.blk 24 [.i n.pump, .ls 1])), (1005, some (.blk 28 [.ls 3, .i need])), (10540, some (cheapest_frK8 n flows bores need))]⟩
       [] (by kernel_rfl) trivial ?_
      refine aw_block ?_
      refine aw_loop (ι := Nat) (fun zz => ⟨189, [1, 2, 3], [(1, .ls 2), (3, .l (.ref 1003 0)), (5, .l (.ref 1005 0)), (7, .ls 10540), (8, .i (plS n.pipes (loadT n flows) bores need n.pump n.pipes.length)), (10, .i ((zz : Nat) : Int))], [(1, some (cheapest_frK1 n)), (2, some (cheapest_frK2 flows)), (3, some (cheapest_frK3 bores)), (1003, some (.blk 24 [.i n.pump, .ls 1])), (1005, some (.blk 28 [.ls 3, .i need])), (10540, some (cheapest_frK8 n flows bores need))]⟩) (fun zz => (zz ≤ n.pipes.length - 1)) (fun zz => n.pipes.length - 1 - zz) 0 (by first | omega | rfl | assumption | (simp; done))
          (Ent.ren [] rfl rfl (by kernel_rfl) ⟨rfl, rfl, rfl, rfl, rfl, rfl, trivial⟩ (cro rfl (cro rfl (cro rfl (cbl rfl rfl (cbl rfl rfl (cve rfl trivial)))))) (by kernel_rfl)) fun zz hp => ?_
      obtain ⟨i, rfl⟩ : ∃ x, x = zz := ⟨_, rfl⟩
      have hi := hp
      show AW _ E _ _ ⟨189, [1, 2, 3], [(1, .ls 2), (3, .l (.ref 1003 0)), (5, .l (.ref 1005 0)), (7, .ls 10540), (8, .i (plS n.pipes (loadT n flows) bores need n.pump n.pipes.length)), (10, .i ((i : Nat) : Int))], [(1, some (cheapest_frK1 n)), (2, some (cheapest_frK2 flows)), (3, some (cheapest_frK3 bores)), (1003, some (.blk 24 [.i n.pump, .ls 1])), (1005, some (.blk 28 [.ls 3, .i need])), (10540, some (cheapest_frK8 n flows bores need))]⟩
      refine aw_seq ?_
      refine aw_seq ?_
      refine aw_r []
       ⟨189, [1, 2, 3], [(1, .ls 2), (3, .l (.ref 1003 0)), (5, .l (.ref 1005 0)), (7, .ls 10540), (8, .i (plS n.pipes (loadT n flows) bores need n.pump n.pipes.length)), (10, .i ((i : Nat) : Int)), (80, .b (decide (((i : Nat) : Int) < (((n.pipes.length - 1) : Nat) : Int))))], [(1, some (cheapest_frK1 n)), (2, some (cheapest_frK2 flows)), (3, some (cheapest_frK3 bores)), (1003, some (.blk 24 [.i n.pump, .ls 1])), (1005, some (.blk 28 [.ls 3, .i need])), (10540, some (cheapest_frK8 n flows bores need))]⟩
       [] (by kernel_rfl) trivial ?_
      refine aw_cond (b := decide (((i : Nat) : Int) < (((n.pipes.length - 1) : Nat) : Int))) rfl (fun h9 => ?_) (fun h9 => ?_)
      ·
       have h9p : ((i : Nat) : Int) < (((n.pipes.length - 1) : Nat) : Int) := dtr h9
       refine aw_skip ?_
       refine aw_seq ?_
       refine aw_block ?_
       refine aw_seq ?_
       have hpi := hp0 i (by omega)
       have h10 : (decide ((ix ((plTo n.pipes (loadT n flows) bores need n.pump (n.pipes.length - 1)).2) i) < 0)) = false := by refine decide_eq_false ?_; omega
       refine aw_d [(2, .idx i), (5, .dec false), (8, .idx i)]
        ⟨189, [1, 2, 3], [(1, .ls 2), (3, .l (.ref 1003 0)), (5, .l (.ref 1005 0)), (7, .ls 10540), (8, .i (plS n.pipes (loadT n flows) bores need n.pump n.pipes.length)), (10, .i ((i : Nat) : Int)), (97, .b (decide (((bores.length : Nat) : Int) ≤ (ix ((plTo n.pipes (loadT n flows) bores need n.pump (n.pipes.length - 1)).2) i))))], [(1, some (cheapest_frK1 n)), (2, some (cheapest_frK2 flows)), (3, some (cheapest_frK3 bores)), (1003, some (.blk 24 [.i n.pump, .ls 1])), (1005, some (.blk 28 [.ls 3, .i need])), (10540, some (cheapest_frK8 n flows bores need))]⟩
        [((i : Nat) : Int) = ((i : Nat) : Int), i < (n.pipes.length - 1), i < (n.pipes.length - 1), decide ((ix ((plTo n.pipes (loadT n flows) bores need n.pump (n.pipes.length - 1)).2) i) < 0) = false, ((i : Nat) : Int) = ((i : Nat) : Int), i < (n.pipes.length - 1), i < (n.pipes.length - 1)] (by kernel_rfl) (by kernel_rfl) (al2 (by omega) (al2 (by omega) (al2 (by omega) (al2 h10 (al2 (by omega) (al2 (by omega) (al1 (by omega)))))))) ?_
       have h11 : (decide (((bores.length : Nat) : Int) ≤ (ix ((plTo n.pipes (loadT n flows) bores need n.pump (n.pipes.length - 1)).2) i))) = false := by refine decide_eq_false ?_; omega
       refine aw_cond (b := decide (((bores.length : Nat) : Int) ≤ (ix ((plTo n.pipes (loadT n flows) bores need n.pump (n.pipes.length - 1)).2) i))) rfl (fun h => Bool.noConfusion (h11.symm.trans h)) (fun _ => ?_)
       refine aw_skip ?_
       refine aw_r [(1, .num (((i + 1) : Nat) : Int))]
        ⟨189, [1, 2, 3], [(1, .ls 2), (3, .l (.ref 1003 0)), (5, .l (.ref 1005 0)), (7, .ls 10540), (8, .i (plS n.pipes (loadT n flows) bores need n.pump n.pipes.length)), (10, .i (((i + 1) : Nat) : Int))], [(1, some (cheapest_frK1 n)), (2, some (cheapest_frK2 flows)), (3, some (cheapest_frK3 bores)), (1003, some (.blk 24 [.i n.pump, .ls 1])), (1005, some (.blk 28 [.ls 3, .i need])), (10540, some (cheapest_frK8 n flows bores need))]⟩
        [(((i : Nat) : Int) + 1) = (((i + 1) : Nat) : Int), -9223372036854775808 ≤ (((i + 1) : Nat) : Int) ∧ (((i + 1) : Nat) : Int) < 9223372036854775808] (by kernel_rfl) (al2 (by first | omega | rfl | assumption) (al1 (by first | omega | rfl | assumption))) ?_
       exact ⟨i + 1, (by first | omega | rfl | assumption | (simp; done)), (show n.pipes.length - 1 - (i + 1) < n.pipes.length - 1 - i by first | omega | rfl | assumption),
           (Ent.ren [] rfl rfl (by kernel_rfl) ⟨rfl, rfl, rfl, rfl, rfl, rfl, trivial⟩ (cro rfl (cro rfl (cro rfl (cbl rfl rfl (cbl rfl rfl (cve rfl trivial)))))) (by kernel_rfl))⟩
      ·
       have h9p : (((n.pipes.length - 1) : Nat) : Int) ≤ ((i : Nat) : Int) := dlt h9
       refine aw_exit (exit_then (exit_then (exit_in ?_)))
       refine aw_seq ?_
       obtain ⟨hok1, hco1⟩ := plan_enough hE hC hall
       have hes : enS n flows bores need (plTo n.pipes (loadT n flows) bores need n.pump (n.pipes.length - 1)).2 = (plS n.pipes (loadT n flows) bores need n.pump n.pipes.length) := (enS_yes hok1).trans hco1
       refine aw_r [(4, .call [1, 2, 3, 10540] (.tup [.one (.i (enS n flows bores need ((plTo n.pipes (loadT n flows) bores need n.pump (n.pipes.length - 1)).2))), .one (.v (.bool (enB n flows bores need ((plTo n.pipes (loadT n flows) bores need n.pump (n.pipes.length - 1)).2))))]) [])]
        ⟨189, [1, 2, 3], [(1, .ls 2), (3, .l (.ref 1003 0)), (5, .l (.ref 1005 0)), (7, .ls 10540), (8, .i (plS n.pipes (loadT n flows) bores need n.pump n.pipes.length)), (11, .i (enS n flows bores need ((plTo n.pipes (loadT n flows) bores need n.pump (n.pipes.length - 1)).2))), (12, .b (enB n flows bores need ((plTo n.pipes (loadT n flows) bores need n.pump (n.pipes.length - 1)).2)))], [(1, some (cheapest_frK1 n)), (2, some (cheapest_frK2 flows)), (3, some (cheapest_frK3 bores)), (1003, some (.blk 24 [.i n.pump, .ls 1])), (1005, some (.blk 28 [.ls 3, .i need])), (10540, some (cheapest_frK8 n flows bores need))]⟩
        [CallOK Try.prog 27 [.agg [.i n.pump, .ls 1], .ls 2, .agg [.ls 3, .i need], .ls 10540] [1, 2, 3, 10540] [some (cheapest_frK1 n), some (cheapest_frK2 flows), some (cheapest_frK3 bores), some (cheapest_frK8 n flows bores need)] (.tup [.one (.i (enS n flows bores need ((plTo n.pipes (loadT n flows) bores need n.pump (n.pipes.length - 1)).2))), .one (.v (.bool (enB n flows bores need ((plTo n.pipes (loadT n flows) bores need n.pump (n.pipes.length - 1)).2))))]) []] (by kernel_rfl) (al1 (CallFr.to (enough_fr n flows bores need ((plTo n.pipes (loadT n flows) bores need n.pump (n.pipes.length - 1)).2) hE hC hl0 hr0) [(1, 1), (2, 2), (3, 3), (4, 10540)] (by kernel_rfl) (by kernel_rfl) (by kernel_rfl) (by kernel_rfl) (by kernel_rfl) (dem_cons rfl (le_ro rfl el_rfl) (dem_cons rfl (le_ro rfl el_rfl) (dem_cons rfl (le_ro rfl el_rfl) (dem_cons rfl (le_vec_ro (by first | rfl | omega | (simp only [List.length_set]; omega)) el_rfl) dem_nil)))))) ?_
       refine aw_seq ?_
       refine aw_seq ?_
       have h12 : (!(enB n flows bores need ((plTo n.pipes (loadT n flows) bores need n.pump (n.pipes.length - 1)).2))) = false := by rw [hok1] <;> rfl
       refine aw_r [(2, .dec false)]
        ⟨189, [1, 2, 3], [(1, .ls 2), (3, .l (.ref 1003 0)), (5, .l (.ref 1005 0)), (7, .ls 10540), (8, .i (plS n.pipes (loadT n flows) bores need n.pump n.pipes.length)), (112, .b (decide ((enS n flows bores need ((plTo n.pipes (loadT n flows) bores need n.pump (n.pipes.length - 1)).2)) ≠ (plS n.pipes (loadT n flows) bores need n.pump n.pipes.length))))], [(1, some (cheapest_frK1 n)), (2, some (cheapest_frK2 flows)), (3, some (cheapest_frK3 bores)), (1003, some (.blk 24 [.i n.pump, .ls 1])), (1005, some (.blk 28 [.ls 3, .i need])), (10540, some (cheapest_frK8 n flows bores need))]⟩
        [(!(enB n flows bores need ((plTo n.pipes (loadT n flows) bores need n.pump (n.pipes.length - 1)).2))) = false] (by kernel_rfl) (al1 h12) ?_
       have h13 : (decide ((enS n flows bores need ((plTo n.pipes (loadT n flows) bores need n.pump (n.pipes.length - 1)).2)) ≠ (plS n.pipes (loadT n flows) bores need n.pump n.pipes.length))) = false := by rw [hes]; simp
       refine aw_cond (b := decide ((enS n flows bores need ((plTo n.pipes (loadT n flows) bores need n.pump (n.pipes.length - 1)).2)) ≠ (plS n.pipes (loadT n flows) bores need n.pump n.pipes.length))) rfl (fun h => Bool.noConfusion (h13.symm.trans h)) (fun _ => ?_)
       refine aw_skip ?_
       refine aw_seq ?_
       refine aw_seq ?_
       refine aw_r []
        ⟨189, [1, 2, 3], [(1, .ls 2), (3, .l (.ref 1003 0)), (5, .l (.ref 1005 0)), (7, .ls 10540), (8, .i (plS n.pipes (loadT n flows) bores need n.pump n.pipes.length)), (13, .i 0)], [(1, some (cheapest_frK1 n)), (2, some (cheapest_frK2 flows)), (3, some (cheapest_frK3 bores)), (1003, some (.blk 24 [.i n.pump, .ls 1])), (1005, some (.blk 28 [.ls 3, .i need])), (10540, some (cheapest_frK8 n flows bores need))]⟩
        [] (by kernel_rfl) trivial ?_
       refine aw_block ?_
       refine aw_loop (ι := Nat) (fun zz => ⟨189, [1, 2, 3], [(1, .ls 2), (3, .l (.ref 1003 0)), (5, .l (.ref 1005 0)), (7, .ls 10540), (8, .i (plS n.pipes (loadT n flows) bores need n.pump n.pipes.length)), (13, .i ((zz : Nat) : Int))], [(1, some (cheapest_frK1 n)), (2, some (cheapest_frK2 flows)), (3, some (cheapest_frK3 bores)), (1003, some (.blk 24 [.i n.pump, .ls 1])), (1005, some (.blk 28 [.ls 3, .i need])), (10540, some (cheapest_frK8 n flows bores need))]⟩) (fun zz => (zz ≤ n.pipes.length - 1)) (fun zz => n.pipes.length - 1 - zz) 0 (by first | omega | rfl | assumption | (simp; done))
           (Ent.ren [] rfl rfl (by kernel_rfl) ⟨rfl, rfl, rfl, rfl, rfl, rfl, trivial⟩ (cro rfl (cro rfl (cro rfl (cbl rfl rfl (cbl rfl rfl (cve rfl trivial)))))) (by kernel_rfl)) fun zz hp => ?_
       obtain ⟨u, rfl⟩ : ∃ x, x = zz := ⟨_, rfl⟩
       have hi2 := hp
       show AW _ E _ _ ⟨189, [1, 2, 3], [(1, .ls 2), (3, .l (.ref 1003 0)), (5, .l (.ref 1005 0)), (7, .ls 10540), (8, .i (plS n.pipes (loadT n flows) bores need n.pump n.pipes.length)), (13, .i ((u : Nat) : Int))], [(1, some (cheapest_frK1 n)), (2, some (cheapest_frK2 flows)), (3, some (cheapest_frK3 bores)), (1003, some (.blk 24 [.i n.pump, .ls 1])), (1005, some (.blk 28 [.ls 3, .i need])), (10540, some (cheapest_frK8 n flows bores need))]⟩
       refine aw_seq ?_
       refine aw_seq ?_
       refine aw_r []
        ⟨189, [1, 2, 3], [(1, .ls 2), (3, .l (.ref 1003 0)), (5, .l (.ref 1005 0)), (7, .ls 10540), (8, .i (plS n.pipes (loadT n flows) bores need n.pump n.pipes.length)), (13, .i ((u : Nat) : Int)), (116, .b (decide (((u : Nat) : Int) < (((n.pipes.length - 1) : Nat) : Int))))], [(1, some (cheapest_frK1 n)), (2, some (cheapest_frK2 flows)), (3, some (cheapest_frK3 bores)), (1003, some (.blk 24 [.i n.pump, .ls 1])), (1005, some (.blk 28 [.ls 3, .i need])), (10540, some (cheapest_frK8 n flows bores need))]⟩
        [] (by kernel_rfl) trivial ?_
       refine aw_cond (b := decide (((u : Nat) : Int) < (((n.pipes.length - 1) : Nat) : Int))) rfl (fun h14 => ?_) (fun h14 => ?_)
       ·
        have h14p : ((u : Nat) : Int) < (((n.pipes.length - 1) : Nat) : Int) := dtr h14
        refine aw_skip ?_
        refine aw_seq ?_
        refine aw_block ?_
        refine aw_seq ?_
        refine aw_r []
         ⟨189, [1, 2, 3], [(1, .ls 2), (3, .l (.ref 1003 0)), (5, .l (.ref 1005 0)), (7, .ls 10540), (8, .i (plS n.pipes (loadT n flows) bores need n.pump n.pipes.length)), (13, .i ((u : Nat) : Int)), (14, .i ((u : Nat) : Int))], [(1, some (cheapest_frK1 n)), (2, some (cheapest_frK2 flows)), (3, some (cheapest_frK3 bores)), (1003, some (.blk 24 [.i n.pump, .ls 1])), (1005, some (.blk 28 [.ls 3, .i need])), (10540, some (cheapest_frK8 n flows bores need))]⟩
         [] (by kernel_rfl) trivial ?_
        refine aw_block ?_
        refine aw_loop (ι := Nat) (fun zz => ⟨189, [1, 2, 3], [(1, .ls 2), (3, .l (.ref 1003 0)), (5, .l (.ref 1005 0)), (7, .ls 10540), (8, .i (plS n.pipes (loadT n flows) bores need n.pump n.pipes.length)), (13, .i ((u : Nat) : Int)), (14, .i ((zz : Nat) : Int))], [(1, some (cheapest_frK1 n)), (2, some (cheapest_frK2 flows)), (3, some (cheapest_frK3 bores)), (1003, some (.blk 24 [.i n.pump, .ls 1])), (1005, some (.blk 28 [.ls 3, .i need])), (10540, some (cheapest_frK8 n flows bores need))]⟩) (fun zz => (zz ≤ n.pipes.length - 1) ∧ (u ≤ zz)) (fun zz => n.pipes.length - 1 - zz) u ⟨(by first | omega | rfl | assumption | (simp; done)), (by first | omega | rfl | assumption | (simp; done))⟩
            (Ent.ren [] rfl rfl (by kernel_rfl) ⟨rfl, rfl, rfl, rfl, rfl, rfl, rfl, trivial⟩ (cro rfl (cro rfl (cro rfl (cbl rfl rfl (cbl rfl rfl (cve rfl trivial)))))) (by kernel_rfl)) fun zz hp => ?_
        obtain ⟨k, rfl⟩ : ∃ x, x = zz := ⟨_, rfl⟩
        obtain ⟨hk, hik⟩ := hp
        show AW _ E _ _ ⟨189, [1, 2, 3], [(1, .ls 2), (3, .l (.ref 1003 0)), (5, .l (.ref 1005 0)), (7, .ls 10540), (8, .i (plS n.pipes (loadT n flows) bores need n.pump n.pipes.length)), (13, .i ((u : Nat) : Int)), (14, .i ((k : Nat) : Int))], [(1, some (cheapest_frK1 n)), (2, some (cheapest_frK2 flows)), (3, some (cheapest_frK3 bores)), (1003, some (.blk 24 [.i n.pump, .ls 1])), (1005, some (.blk 28 [.ls 3, .i need])), (10540, some (cheapest_frK8 n flows bores need))]⟩
        refine aw_seq ?_
        refine aw_seq ?_
        refine aw_r []
         ⟨189, [1, 2, 3], [(1, .ls 2), (3, .l (.ref 1003 0)), (5, .l (.ref 1005 0)), (7, .ls 10540), (8, .i (plS n.pipes (loadT n flows) bores need n.pump n.pipes.length)), (13, .i ((u : Nat) : Int)), (14, .i ((k : Nat) : Int)), (123, .b (decide (((k : Nat) : Int) < (((n.pipes.length - 1) : Nat) : Int))))], [(1, some (cheapest_frK1 n)), (2, some (cheapest_frK2 flows)), (3, some (cheapest_frK3 bores)), (1003, some (.blk 24 [.i n.pump, .ls 1])), (1005, some (.blk 28 [.ls 3, .i need])), (10540, some (cheapest_frK8 n flows bores need))]⟩
         [] (by kernel_rfl) trivial ?_
        refine aw_cond (b := decide (((k : Nat) : Int) < (((n.pipes.length - 1) : Nat) : Int))) rfl (fun h15 => ?_) (fun h15 => ?_)
        ·
         have h15p : ((k : Nat) : Int) < (((n.pipes.length - 1) : Nat) : Int) := dtr h15
         refine aw_skip ?_
         refine aw_seq ?_
         refine aw_block ?_
         refine aw_seq ?_
         refine aw_r []
          ⟨189, [1, 2, 3], [(1, .ls 2), (3, .l (.ref 1003 0)), (5, .l (.ref 1005 0)), (7, .ls 10540), (8, .i (plS n.pipes (loadT n flows) bores need n.pump n.pipes.length)), (13, .i ((u : Nat) : Int)), (14, .i ((k : Nat) : Int)), (15, .i 0)], [(1, some (cheapest_frK1 n)), (2, some (cheapest_frK2 flows)), (3, some (cheapest_frK3 bores)), (1003, some (.blk 24 [.i n.pump, .ls 1])), (1005, some (.blk 28 [.ls 3, .i need])), (10540, some (cheapest_frK8 n flows bores need))]⟩
          [] (by kernel_rfl) trivial ?_
         refine aw_block ?_
         refine aw_loop (ι := Nat) (fun zz => ⟨189, [1, 2, 3], [(1, .ls 2), (3, .l (.ref 1003 0)), (5, .l (.ref 1005 0)), (7, .ls 10540), (8, .i (plS n.pipes (loadT n flows) bores need n.pump n.pipes.length)), (13, .i ((u : Nat) : Int)), (14, .i ((k : Nat) : Int)), (15, .i ((zz : Nat) : Int))], [(1, some (cheapest_frK1 n)), (2, some (cheapest_frK2 flows)), (3, some (cheapest_frK3 bores)), (1003, some (.blk 24 [.i n.pump, .ls 1])), (1005, some (.blk 28 [.ls 3, .i need])), (10540, some (cheapest_frK8 n flows bores need))]⟩) (fun zz => (zz ≤ bores.length * bores.length)) (fun zz => bores.length * bores.length - zz) 0 (by first | omega | rfl | assumption | (simp; done))
             (Ent.ren [] rfl rfl (by kernel_rfl) ⟨rfl, rfl, rfl, rfl, rfl, rfl, rfl, rfl, trivial⟩ (cro rfl (cro rfl (cro rfl (cbl rfl rfl (cbl rfl rfl (cve rfl trivial)))))) (by kernel_rfl)) fun zz hp => ?_
         obtain ⟨c, rfl⟩ : ∃ x, x = zz := ⟨_, rfl⟩
         have hc := hp
         show AW _ E _ _ ⟨189, [1, 2, 3], [(1, .ls 2), (3, .l (.ref 1003 0)), (5, .l (.ref 1005 0)), (7, .ls 10540), (8, .i (plS n.pipes (loadT n flows) bores need n.pump n.pipes.length)), (13, .i ((u : Nat) : Int)), (14, .i ((k : Nat) : Int)), (15, .i ((c : Nat) : Int))], [(1, some (cheapest_frK1 n)), (2, some (cheapest_frK2 flows)), (3, some (cheapest_frK3 bores)), (1003, some (.blk 24 [.i n.pump, .ls 1])), (1005, some (.blk 28 [.ls 3, .i need])), (10540, some (cheapest_frK8 n flows bores need))]⟩
         refine aw_seq ?_
         refine aw_seq ?_
         have hbb : bores.length * bores.length ≤ 36 := Nat.mul_le_mul (show bores.length ≤ 6 by omega) (show bores.length ≤ 6 by omega)
         refine aw_r [(7, .num (((bores.length * bores.length) : Nat) : Int))]
          ⟨189, [1, 2, 3], [(1, .ls 2), (3, .l (.ref 1003 0)), (5, .l (.ref 1005 0)), (7, .ls 10540), (8, .i (plS n.pipes (loadT n flows) bores need n.pump n.pipes.length)), (13, .i ((u : Nat) : Int)), (14, .i ((k : Nat) : Int)), (15, .i ((c : Nat) : Int)), (134, .b (decide (((c : Nat) : Int) < (((bores.length * bores.length) : Nat) : Int))))], [(1, some (cheapest_frK1 n)), (2, some (cheapest_frK2 flows)), (3, some (cheapest_frK3 bores)), (1003, some (.blk 24 [.i n.pump, .ls 1])), (1005, some (.blk 28 [.ls 3, .i need])), (10540, some (cheapest_frK8 n flows bores need))]⟩
          [(((bores.length : Nat) : Int) * ((bores.length : Nat) : Int)) = (((bores.length * bores.length) : Nat) : Int), -9223372036854775808 ≤ (((bores.length * bores.length) : Nat) : Int) ∧ (((bores.length * bores.length) : Nat) : Int) < 9223372036854775808] (by kernel_rfl) (al2 (by first | omega | rfl | assumption) (al1 (by first | omega | rfl | assumption))) ?_
         refine aw_cond (b := decide (((c : Nat) : Int) < (((bores.length * bores.length) : Nat) : Int))) rfl (fun h16 => ?_) (fun h16 => ?_)
         ·
          have h16p : ((c : Nat) : Int) < (((bores.length * bores.length) : Nat) : Int) := dtr h16
          refine aw_skip ?_
          refine aw_seq ?_
          refine aw_block ?_
          refine aw_seq ?_
          refine aw_r [(1, .call [10540] (.ls 11380) [(11380, some (cheapest_frK9 n flows bores need))])]
           ⟨189, [1, 2, 3], [(1, .ls 2), (3, .l (.ref 1003 0)), (5, .l (.ref 1005 0)), (7, .ls 10540), (8, .i (plS n.pipes (loadT n flows) bores need n.pump n.pipes.length)), (13, .i ((u : Nat) : Int)), (14, .i ((k : Nat) : Int)), (15, .i ((c : Nat) : Int)), (16, .ls 11380)], [(1, some (cheapest_frK1 n)), (2, some (cheapest_frK2 flows)), (3, some (cheapest_frK3 bores)), (1003, some (.blk 24 [.i n.pump, .ls 1])), (1005, some (.blk 28 [.ls 3, .i need])), (10540, some (cheapest_frK8 n flows bores need)), (11380, some (cheapest_frK9 n flows bores need))]⟩
           [CallOK Try.prog 28 [.ls 10540] [10540] [some (cheapest_frK8 n flows bores need)] (.ls 11380) [(11380, some (cheapest_frK9 n flows bores need))]] (by kernel_rfl) (al1 (CallFr.to (numbers_fr ((plTo n.pipes (loadT n flows) bores need n.pump (n.pipes.length - 1)).2) (by omega)) [(1, 10540), (2, 11380)] (by kernel_rfl) (by kernel_rfl) (by kernel_rfl) (by kernel_rfl) (by kernel_rfl) (dem_cons rfl (le_vec_ro (by first | rfl | omega | (simp only [List.length_set]; omega)) el_rfl) dem_nil))) ?_
          refine aw_seq ?_
          have hq0 : 0 ≤ (((c : Nat) : Int) / ((bores.length : Nat) : Int)) ∧ (((c : Nat) : Int) / ((bores.length : Nat) : Int)) < ((bores.length : Nat) : Int) := ⟨Int.ediv_nonneg (by omega) (by omega), Int.ediv_lt_of_lt_mul (by omega) (by have := dtr (p := ((c : Nat) : Int) < ((bores.length * bores.length : Nat) : Int)) (by assumption); rw [Int.natCast_mul] at this; exact this)⟩
          have hr1 : 0 ≤ (((c : Nat) : Int) % ((bores.length : Nat) : Int)) ∧ (((c : Nat) : Int) % ((bores.length : Nat) : Int)) < ((bores.length : Nat) : Int) := ⟨Int.emod_nonneg _ (by omega), Int.emod_lt_of_pos _ (by omega)⟩
          refine aw_r [(7, .idx u), (8, .lst 0 0 (Lst eI (((plTo n.pipes (loadT n flows) bores need n.pump (n.pipes.length - 1)).2).set u (((c : Nat) : Int) / ((bores.length : Nat) : Int)))))]
           ⟨189, [1, 2, 3], [(1, .ls 2), (3, .l (.ref 1003 0)), (5, .l (.ref 1005 0)), (7, .ls 10540), (8, .i (plS n.pipes (loadT n flows) bores need n.pump n.pipes.length)), (13, .i ((u : Nat) : Int)), (14, .i ((k : Nat) : Int)), (15, .i ((c : Nat) : Int)), (16, .ls 11380)], [(1, some (cheapest_frK1 n)), (2, some (cheapest_frK2 flows)), (3, some (cheapest_frK3 bores)), (1003, some (.blk 24 [.i n.pump, .ls 1])), (1005, some (.blk 28 [.ls 3, .i need])), (10540, some (cheapest_frK8 n flows bores need)), (11380, some (cheapest_frK10 n flows bores need u c))]⟩
           [0 ≤ ((c : Nat) : Int), 0 < ((bores.length : Nat) : Int), -9223372036854775808 ≤ (((c : Nat) : Int) / ((bores.length : Nat) : Int)) ∧ (((c : Nat) : Int) / ((bores.length : Nat) : Int)) < 9223372036854775808, ((u : Nat) : Int) = ((u : Nat) : Int), u < (((plTo n.pipes (loadT n flows) bores need n.pump (n.pipes.length - 1)).2)).length, u < (((plTo n.pipes (loadT n flows) bores need n.pump (n.pipes.length - 1)).2)).length, StoreOk 1 ((((plTo n.pipes (loadT n flows) bores need n.pump (n.pipes.length - 1)).2)).length) (Lst eI ((plTo n.pipes (loadT n flows) bores need n.pump (n.pipes.length - 1)).2)) u 0 [.i (((c : Nat) : Int) / ((bores.length : Nat) : Int))] (Lst eI (((plTo n.pipes (loadT n flows) bores need n.pump (n.pipes.length - 1)).2).set u (((c : Nat) : Int) / ((bores.length : Nat) : Int))))] (by kernel_rfl) (al2 (by first | omega | rfl | assumption) (al2 (by first | omega | rfl | assumption) (al2 (by first | omega | rfl | assumption) (al2 (by omega) (al2 (by omega) (al2 (by omega) (al1 (store_at (by first | rfl | omega | (simp only [List.length_set]; omega)) (fun | 0, _ => rfl | (n + 1), h => absurd h (by omega)))))))))) ?_
          refine aw_seq ?_
          refine aw_seq ?_
          refine aw_r []
           ⟨189, [1, 2, 3], [(1, .ls 2), (3, .l (.ref 1003 0)), (5, .l (.ref 1005 0)), (7, .ls 10540), (8, .i (plS n.pipes (loadT n flows) bores need n.pump n.pipes.length)), (13, .i ((u : Nat) : Int)), (14, .i ((k : Nat) : Int)), (15, .i ((c : Nat) : Int)), (16, .ls 11380), (149, .b (decide (((u : Nat) : Int) < ((k : Nat) : Int))))], [(1, some (cheapest_frK1 n)), (2, some (cheapest_frK2 flows)), (3, some (cheapest_frK3 bores)), (1003, some (.blk 24 [.i n.pump, .ls 1])), (1005, some (.blk 28 [.ls 3, .i need])), (10540, some (cheapest_frK8 n flows bores need)), (11380, some (cheapest_frK10 n flows bores need u c))]⟩
           [] (by kernel_rfl) trivial ?_
          refine aw_cond (b := decide (((u : Nat) : Int) < ((k : Nat) : Int))) rfl (fun h17 => ?_) (fun h17 => ?_)
          ·
           have h17p : ((u : Nat) : Int) < ((k : Nat) : Int) := dtr h17
           refine aw_r [(7, .idx k), (8, .lst 0 0 (Lst eI ((((plTo n.pipes (loadT n flows) bores need n.pump (n.pipes.length - 1)).2).set u (((c : Nat) : Int) / ((bores.length : Nat) : Int))).set k (((c : Nat) : Int) % ((bores.length : Nat) : Int)))))]
            ⟨189, [1, 2, 3], [(1, .ls 2), (3, .l (.ref 1003 0)), (5, .l (.ref 1005 0)), (7, .ls 10540), (8, .i (plS n.pipes (loadT n flows) bores need n.pump n.pipes.length)), (13, .i ((u : Nat) : Int)), (14, .i ((k : Nat) : Int)), (15, .i ((c : Nat) : Int)), (16, .ls 11380)], [(1, some (cheapest_frK1 n)), (2, some (cheapest_frK2 flows)), (3, some (cheapest_frK3 bores)), (1003, some (.blk 24 [.i n.pump, .ls 1])), (1005, some (.blk 28 [.ls 3, .i need])), (10540, some (cheapest_frK8 n flows bores need)), (11380, some (cheapest_frK11 n flows bores need u c k))]⟩
            [0 ≤ ((c : Nat) : Int), 0 < ((bores.length : Nat) : Int), -9223372036854775808 ≤ (((c : Nat) : Int) % ((bores.length : Nat) : Int)) ∧ (((c : Nat) : Int) % ((bores.length : Nat) : Int)) < 9223372036854775808, ((k : Nat) : Int) = ((k : Nat) : Int), k < (((plTo n.pipes (loadT n flows) bores need n.pump (n.pipes.length - 1)).2)).length, k < (((plTo n.pipes (loadT n flows) bores need n.pump (n.pipes.length - 1)).2)).length, StoreOk 1 ((((plTo n.pipes (loadT n flows) bores need n.pump (n.pipes.length - 1)).2)).length) (Lst eI (((plTo n.pipes (loadT n flows) bores need n.pump (n.pipes.length - 1)).2).set u (((c : Nat) : Int) / ((bores.length : Nat) : Int)))) k 0 [.i (((c : Nat) : Int) % ((bores.length : Nat) : Int))] (Lst eI ((((plTo n.pipes (loadT n flows) bores need n.pump (n.pipes.length - 1)).2).set u (((c : Nat) : Int) / ((bores.length : Nat) : Int))).set k (((c : Nat) : Int) % ((bores.length : Nat) : Int))))] (by kernel_rfl) (al2 (by first | omega | rfl | assumption) (al2 (by first | omega | rfl | assumption) (al2 (by first | omega | rfl | assumption) (al2 (by omega) (al2 (by omega) (al2 (by omega) (al1 (store_at (by first | rfl | omega | (simp only [List.length_set]; omega)) (fun | 0, _ => rfl | (n + 1), h => absurd h (by omega)))))))))) ?_
           refine aw_seq ?_
           obtain ⟨mm, hmm⟩ : ∃ mm : List Int, ((((plTo n.pipes (loadT n flows) bores need n.pump (n.pipes.length - 1)).2).set u (((c : Nat) : Int) / ((bores.length : Nat) : Int))).set k (((c : Nat) : Int) % ((bores.length : Nat) : Int))) = mm := ⟨_, rfl⟩
           have hml : mm.length = n.pipes.length - 1 := by rw [← hmm]; simp only [List.length_set]; omega
           have hmr : ∀ j, j < mm.length → 0 ≤ ix mm j ∧ ix mm j < bores.length := by rw [← hmm]; exact set_rng (set_rng hr0 u (((c : Nat) : Int) / ((bores.length : Nat) : Int)) hq0) k (((c : Nat) : Int) % ((bores.length : Nat) : Int)) hr1
           refine aw_ent (T := ⟨189, [1, 2, 3], [(1, .ls 2), (3, .l (.ref 1003 0)), (5, .l (.ref 1005 0)), (7, .ls 10540), (8, .i (plS n.pipes (loadT n flows) bores need n.pump n.pipes.length)), (13, .i ((u : Nat) : Int)), (14, .i ((k : Nat) : Int)), (15, .i ((c : Nat) : Int)), (16, .ls 11380)], [(1, some (cheapest_frK1 n)), (2, some (cheapest_frK2 flows)), (3, some (cheapest_frK3 bores)), (1003, some (.blk 24 [.i n.pump, .ls 1])), (1005, some (.blk 28 [.ls 3, .i need])), (10540, some (cheapest_frK8 n flows bores need)), (11380, some (.vec 3 1 mm.length (Lst eI mm)))]⟩)
               (Ent.ren [] rfl rfl (by kernel_rfl) ⟨rfl, rfl, rfl, rfl, rfl, rfl, rfl, rfl, rfl, trivial⟩ (cro rfl (cro rfl (cro rfl (cbl rfl rfl (cbl rfl rfl (cve rfl (conts_cons rfl (le_vec (by first | rfl | omega | assumption | (exact hmm) | (rw [← hmm]; simp only [List.length_set]; omega) | (rw [← hml])) (lst_eq (by first | rfl | omega | assumption | (exact hmm) | (rw [← hmm]; simp only [List.length_set]; omega) | (rw [← hml])))) trivial))))))) (by kernel_rfl)) ?_
           refine aw_r [(4, .call [1, 2, 3, 11380] (.tup [.one (.i (enS n flows bores need mm)), .one (.v (.bool (enB n flows bores need mm)))]) [])]
            ⟨189, [1, 2, 3], [(1, .ls 2), (3, .l (.ref 1003 0)), (5, .l (.ref 1005 0)), (7, .ls 10540), (8, .i (plS n.pipes (loadT n flows) bores need n.pump n.pipes.length)), (13, .i ((u : Nat) : Int)), (14, .i ((k : Nat) : Int)), (15, .i ((c : Nat) : Int)), (16, .ls 11380), (17, .i (enS n flows bores need mm)), (18, .b (enB n flows bores need mm))], [(1, some (cheapest_frK1 n)), (2, some (cheapest_frK2 flows)), (3, some (cheapest_frK3 bores)), (1003, some (.blk 24 [.i n.pump, .ls 1])), (1005, some (.blk 28 [.ls 3, .i need])), (10540, some (cheapest_frK8 n flows bores need)), (11380, some (.vec 3 1 mm.length (Lst eI mm)))]⟩
            [CallOK Try.prog 27 [.agg [.i n.pump, .ls 1], .ls 2, .agg [.ls 3, .i need], .ls 11380] [1, 2, 3, 11380] [some (cheapest_frK1 n), some (cheapest_frK2 flows), some (cheapest_frK3 bores), some (.vec 3 1 mm.length (Lst eI mm))] (.tup [.one (.i (enS n flows bores need mm)), .one (.v (.bool (enB n flows bores need mm)))]) []] (by kernel_rfl) (al1 (CallFr.to (enough_fr n flows bores need mm hE hC hml hmr) [(1, 1), (2, 2), (3, 3), (4, 11380)] (by kernel_rfl) (by kernel_rfl) (by kernel_rfl) (by kernel_rfl) (by kernel_rfl) (dem_cons rfl (le_ro rfl el_rfl) (dem_cons rfl (le_ro rfl el_rfl) (dem_cons rfl (le_ro rfl el_rfl) (dem_cons rfl (le_vec_ro rfl el_rfl) dem_nil)))))) ?_
           refine aw_seq ?_
           rcases Bool.eq_false_or_eq_true (enB n flows bores need mm) with h18 | h18
           ·
            have hch := cheap hE hC hall hml hmr h18
            have hes2 : enS n flows bores need mm = costE n.pipes bores mm n.pipes.length := enS_yes h18
            have h19 : (decide ((enS n flows bores need mm) < (plS n.pipes (loadT n flows) bores need n.pump n.pipes.length))) = false := by refine decide_eq_false ?_; rw [hes2]; omega
            rcases Bool.eq_false_or_eq_true (decide ((enS n flows bores need mm) = (plS n.pipes (loadT n flows) bores need n.pump n.pipes.length))) with h20 | h20
            ·
             have h20p : (enS n flows bores need mm) = (plS n.pipes (loadT n flows) bores need n.pump n.pipes.length) := dtr h20
             refine aw_r [(1, .dec true), (5, .dec false), (9, .dec true), (12, .call [11380, 10540] (.b (lessB mm ((plTo n.pipes (loadT n flows) bores need n.pump (n.pipes.length - 1)).2))) [])]
              ⟨189, [1, 2, 3], [(1, .ls 2), (3, .l (.ref 1003 0)), (5, .l (.ref 1005 0)), (7, .ls 10540), (8, .i (plS n.pipes (loadT n flows) bores need n.pump n.pipes.length)), (13, .i ((u : Nat) : Int)), (14, .i ((k : Nat) : Int)), (15, .i ((c : Nat) : Int)), (187, .b (lessB mm ((plTo n.pipes (loadT n flows) bores need n.pump (n.pipes.length - 1)).2)))], [(1, some (cheapest_frK1 n)), (2, some (cheapest_frK2 flows)), (3, some (cheapest_frK3 bores)), (1003, some (.blk 24 [.i n.pump, .ls 1])), (1005, some (.blk 28 [.ls 3, .i need])), (10540, some (cheapest_frK8 n flows bores need))]⟩
              [(enB n flows bores need mm) = true, decide ((enS n flows bores need mm) < (plS n.pipes (loadT n flows) bores need n.pump n.pipes.length)) = false, decide ((enS n flows bores need mm) = (plS n.pipes (loadT n flows) bores need n.pump n.pipes.length)) = true, CallOK Try.prog 29 [.ls 11380, .ls 10540] [11380, 10540] [some (.vec 3 1 mm.length (Lst eI mm)), some (cheapest_frK8 n flows bores need)] (.b (lessB mm ((plTo n.pipes (loadT n flows) bores need n.pump (n.pipes.length - 1)).2))) []] (by kernel_rfl) (al2 h18 (al2 h19 (al2 h20 (al1 (CallFr.to (smaller_fr mm ((plTo n.pipes (loadT n flows) bores need n.pump (n.pipes.length - 1)).2) (by omega) (by omega)) [(1, 11380), (2, 10540)] (by kernel_rfl) (by kernel_rfl) (by kernel_rfl) (by kernel_rfl) (by kernel_rfl) (dem_cons rfl (le_vec_ro rfl el_rfl) (dem_cons rfl (le_vec_ro (by first | rfl | omega | (simp only [List.length_set]; omega)) el_rfl) dem_nil))))))) ?_
             have h21 : ((lessB mm ((plTo n.pipes (loadT n flows) bores need n.pump (n.pipes.length - 1)).2))) = false := by exact hch.2 (hes2.symm.trans (dtr (by assumption)))
             refine aw_cond (b := (lessB mm ((plTo n.pipes (loadT n flows) bores need n.pump (n.pipes.length - 1)).2))) rfl (fun h => Bool.noConfusion (h21.symm.trans h)) (fun _ => ?_)
             refine aw_skip ?_
             refine aw_r [(1, .num (((c + 1) : Nat) : Int))]
              ⟨189, [1, 2, 3], [(1, .ls 2), (3, .l (.ref 1003 0)), (5, .l (.ref 1005 0)), (7, .ls 10540), (8, .i (plS n.pipes (loadT n flows) bores need n.pump n.pipes.length)), (13, .i ((u : Nat) : Int)), (14, .i ((k : Nat) : Int)), (15, .i (((c + 1) : Nat) : Int))], [(1, some (cheapest_frK1 n)), (2, some (cheapest_frK2 flows)), (3, some (cheapest_frK3 bores)), (1003, some (.blk 24 [.i n.pump, .ls 1])), (1005, some (.blk 28 [.ls 3, .i need])), (10540, some (cheapest_frK8 n flows bores need))]⟩
              [(((c : Nat) : Int) + 1) = (((c + 1) : Nat) : Int), -9223372036854775808 ≤ (((c + 1) : Nat) : Int) ∧ (((c + 1) : Nat) : Int) < 9223372036854775808] (by kernel_rfl) (al2 (by first | omega | rfl | assumption) (al1 (by first | omega | rfl | assumption))) ?_
             exact ⟨c + 1, (by first | omega | rfl | assumption | (simp; done)), (show bores.length * bores.length - (c + 1) < bores.length * bores.length - c by first | omega | rfl | assumption),
                 (Ent.ren [] rfl rfl (by kernel_rfl) ⟨rfl, rfl, rfl, rfl, rfl, rfl, rfl, rfl, trivial⟩ (cro rfl (cro rfl (cro rfl (cbl rfl rfl (cbl rfl rfl (cve rfl trivial)))))) (by kernel_rfl))⟩
            ·
             have h20p : (enS n flows bores need mm) ≠ (plS n.pipes (loadT n flows) bores need n.pump n.pipes.length) := deq h20
             refine aw_r [(1, .dec true), (5, .dec false), (9, .dec false)]
              ⟨189, [1, 2, 3], [(1, .ls 2), (3, .l (.ref 1003 0)), (5, .l (.ref 1005 0)), (7, .ls 10540), (8, .i (plS n.pipes (loadT n flows) bores need n.pump n.pipes.length)), (13, .i ((u : Nat) : Int)), (14, .i ((k : Nat) : Int)), (15, .i ((c : Nat) : Int)), (187, .b false)], [(1, some (cheapest_frK1 n)), (2, some (cheapest_frK2 flows)), (3, some (cheapest_frK3 bores)), (1003, some (.blk 24 [.i n.pump, .ls 1])), (1005, some (.blk 28 [.ls 3, .i need])), (10540, some (cheapest_frK8 n flows bores need))]⟩
              [(enB n flows bores need mm) = true, decide ((enS n flows bores need mm) < (plS n.pipes (loadT n flows) bores need n.pump n.pipes.length)) = false, decide ((enS n flows bores need mm) = (plS n.pipes (loadT n flows) bores need n.pump n.pipes.length)) = false] (by kernel_rfl) (al2 h18 (al2 h19 (al1 h20))) ?_
             refine aw_false rfl ?_
             refine aw_skip ?_
             refine aw_r [(1, .num (((c + 1) : Nat) : Int))]
              ⟨189, [1, 2, 3], [(1, .ls 2), (3, .l (.ref 1003 0)), (5, .l (.ref 1005 0)), (7, .ls 10540), (8, .i (plS n.pipes (loadT n flows) bores need n.pump n.pipes.length)), (13, .i ((u : Nat) : Int)), (14, .i ((k : Nat) : Int)), (15, .i (((c + 1) : Nat) : Int))], [(1, some (cheapest_frK1 n)), (2, some (cheapest_frK2 flows)), (3, some (cheapest_frK3 bores)), (1003, some (.blk 24 [.i n.pump, .ls 1])), (1005, some (.blk 28 [.ls 3, .i need])), (10540, some (cheapest_frK8 n flows bores need))]⟩
              [(((c : Nat) : Int) + 1) = (((c + 1) : Nat) : Int), -9223372036854775808 ≤ (((c + 1) : Nat) : Int) ∧ (((c + 1) : Nat) : Int) < 9223372036854775808] (by kernel_rfl) (al2 (by first | omega | rfl | assumption) (al1 (by first | omega | rfl | assumption))) ?_
             exact ⟨c + 1, (by first | omega | rfl | assumption | (simp; done)), (show bores.length * bores.length - (c + 1) < bores.length * bores.length - c by first | omega | rfl | assumption),
                 (Ent.ren [] rfl rfl (by kernel_rfl) ⟨rfl, rfl, rfl, rfl, rfl, rfl, rfl, rfl, trivial⟩ (cro rfl (cro rfl (cro rfl (cbl rfl rfl (cbl rfl rfl (cve rfl trivial)))))) (by kernel_rfl))⟩
           ·
            refine aw_r [(1, .dec false)]
             ⟨189, [1, 2, 3], [(1, .ls 2), (3, .l (.ref 1003 0)), (5, .l (.ref 1005 0)), (7, .ls 10540), (8, .i (plS n.pipes (loadT n flows) bores need n.pump n.pipes.length)), (13, .i ((u : Nat) : Int)), (14, .i ((k : Nat) : Int)), (15, .i ((c : Nat) : Int)), (187, .b false)], [(1, some (cheapest_frK1 n)), (2, some (cheapest_frK2 flows)), (3, some (cheapest_frK3 bores)), (1003, some (.blk 24 [.i n.pump, .ls 1])), (1005, some (.blk 28 [.ls 3, .i need])), (10540, some (cheapest_frK8 n flows bores need))]⟩
             [(enB n flows bores need mm) = false] (by kernel_rfl) (al1 h18) ?_
            refine aw_false rfl ?_
            refine aw_skip ?_
            refine aw_r [(1, .num (((c + 1) : Nat) : Int))]
             ⟨189, [1, 2, 3], [(1, .ls 2), (3, .l (.ref 1003 0)), (5, .l (.ref 1005 0)), (7, .ls 10540), (8, .i (plS n.pipes (loadT n flows) bores need n.pump n.pipes.length)), (13, .i ((u : Nat) : Int)), (14, .i ((k : Nat) : Int)), (15, .i (((c + 1) : Nat) : Int))], [(1, some (cheapest_frK1 n)), (2, some (cheapest_frK2 flows)), (3, some (cheapest_frK3 bores)), (1003, some (.blk 24 [.i n.pump, .ls 1])), (1005, some (.blk 28 [.ls 3, .i need])), (10540, some (cheapest_frK8 n flows bores need))]⟩
             [(((c : Nat) : Int) + 1) = (((c + 1) : Nat) : Int), -9223372036854775808 ≤ (((c + 1) : Nat) : Int) ∧ (((c + 1) : Nat) : Int) < 9223372036854775808] (by kernel_rfl) (al2 (by first | omega | rfl | assumption) (al1 (by first | omega | rfl | assumption))) ?_
            exact ⟨c + 1, (by first | omega | rfl | assumption | (simp; done)), (show bores.length * bores.length - (c + 1) < bores.length * bores.length - c by first | omega | rfl | assumption),
                (Ent.ren [] rfl rfl (by kernel_rfl) ⟨rfl, rfl, rfl, rfl, rfl, rfl, rfl, rfl, trivial⟩ (cro rfl (cro rfl (cro rfl (cbl rfl rfl (cbl rfl rfl (cve rfl trivial)))))) (by kernel_rfl))⟩
          ·
           have h17p : ((k : Nat) : Int) ≤ ((u : Nat) : Int) := dlt h17
           refine aw_seq ?_
           refine aw_r []
            ⟨189, [1, 2, 3], [(1, .ls 2), (3, .l (.ref 1003 0)), (5, .l (.ref 1005 0)), (7, .ls 10540), (8, .i (plS n.pipes (loadT n flows) bores need n.pump n.pipes.length)), (13, .i ((u : Nat) : Int)), (14, .i ((k : Nat) : Int)), (15, .i ((c : Nat) : Int)), (16, .ls 11380), (163, .b (decide (0 < (((c : Nat) : Int) % ((bores.length : Nat) : Int)))))], [(1, some (cheapest_frK1 n)), (2, some (cheapest_frK2 flows)), (3, some (cheapest_frK3 bores)), (1003, some (.blk 24 [.i n.pump, .ls 1])), (1005, some (.blk 28 [.ls 3, .i need])), (10540, some (cheapest_frK8 n flows bores need)), (11380, some (cheapest_frK10 n flows bores need u c))]⟩
            [0 ≤ ((c : Nat) : Int), 0 < ((bores.length : Nat) : Int), -9223372036854775808 ≤ (((c : Nat) : Int) % ((bores.length : Nat) : Int)) ∧ (((c : Nat) : Int) % ((bores.length : Nat) : Int)) < 9223372036854775808] (by kernel_rfl) (al2 (by first | omega | rfl | assumption) (al2 (by first | omega | rfl | assumption) (al1 (by first | omega | rfl | assumption)))) ?_
           refine aw_cond (b := decide (0 < (((c : Nat) : Int) % ((bores.length : Nat) : Int)))) rfl (fun h22 => ?_) (fun h22 => ?_)
           ·
            have h22p : 0 < (((c : Nat) : Int) % ((bores.length : Nat) : Int)) := dtr h22
            refine aw_exit (exit_then (exit_in ?_))
            refine aw_r [(1, .num (((c + 1) : Nat) : Int))]
             ⟨189, [1, 2, 3], [(1, .ls 2), (3, .l (.ref 1003 0)), (5, .l (.ref 1005 0)), (7, .ls 10540), (8, .i (plS n.pipes (loadT n flows) bores need n.pump n.pipes.length)), (13, .i ((u : Nat) : Int)), (14, .i ((k : Nat) : Int)), (15, .i (((c + 1) : Nat) : Int))], [(1, some (cheapest_frK1 n)), (2, some (cheapest_frK2 flows)), (3, some (cheapest_frK3 bores)), (1003, some (.blk 24 [.i n.pump, .ls 1])), (1005, some (.blk 28 [.ls 3, .i need])), (10540, some (cheapest_frK8 n flows bores need))]⟩
             [(((c : Nat) : Int) + 1) = (((c + 1) : Nat) : Int), -9223372036854775808 ≤ (((c + 1) : Nat) : Int) ∧ (((c + 1) : Nat) : Int) < 9223372036854775808] (by kernel_rfl) (al2 (by first | omega | rfl | assumption) (al1 (by first | omega | rfl | assumption))) ?_
            exact ⟨c + 1, (by first | omega | rfl | assumption | (simp; done)), (show bores.length * bores.length - (c + 1) < bores.length * bores.length - c by first | omega | rfl | assumption),
                (Ent.ren [] rfl rfl (by kernel_rfl) ⟨rfl, rfl, rfl, rfl, rfl, rfl, rfl, rfl, trivial⟩ (cro rfl (cro rfl (cro rfl (cbl rfl rfl (cbl rfl rfl (cve rfl trivial)))))) (by kernel_rfl))⟩
           ·
            have h22p : (((c : Nat) : Int) % ((bores.length : Nat) : Int)) ≤ 0 := dlt h22
            refine aw_skip ?_
            refine aw_seq ?_
            obtain ⟨mm, hmm⟩ : ∃ mm : List Int, (((plTo n.pipes (loadT n flows) bores need n.pump (n.pipes.length - 1)).2).set u (((c : Nat) : Int) / ((bores.length : Nat) : Int))) = mm := ⟨_, rfl⟩
            have hml : mm.length = n.pipes.length - 1 := by rw [← hmm]; simp only [List.length_set]; omega
            have hmr : ∀ j, j < mm.length → 0 ≤ ix mm j ∧ ix mm j < bores.length := by rw [← hmm]; exact set_rng hr0 u (((c : Nat) : Int) / ((bores.length : Nat) : Int)) hq0
            refine aw_ent (T := ⟨189, [1, 2, 3], [(1, .ls 2), (3, .l (.ref 1003 0)), (5, .l (.ref 1005 0)), (7, .ls 10540), (8, .i (plS n.pipes (loadT n flows) bores need n.pump n.pipes.length)), (13, .i ((u : Nat) : Int)), (14, .i ((k : Nat) : Int)), (15, .i ((c : Nat) : Int)), (16, .ls 11380), (163, .b (decide (0 < (((c : Nat) : Int) % ((bores.length : Nat) : Int)))))], [(1, some (cheapest_frK1 n)), (2, some (cheapest_frK2 flows)), (3, some (cheapest_frK3 bores)), (1003, some (.blk 24 [.i n.pump, .ls 1])), (1005, some (.blk 28 [.ls 3, .i need])), (10540, some (cheapest_frK8 n flows bores need)), (11380, some (.vec 3 1 mm.length (Lst eI mm)))]⟩)
                (Ent.ren [] rfl rfl (by kernel_rfl) ⟨rfl, rfl, rfl, rfl, rfl, rfl, rfl, rfl, rfl, rfl, trivial⟩ (cro rfl (cro rfl (cro rfl (cbl rfl rfl (cbl rfl rfl (cve rfl (conts_cons rfl (le_vec (by first | rfl | omega | assumption | (exact hmm) | (rw [← hmm]; simp only [List.length_set]; omega) | (rw [← hml])) (lst_eq (by first | rfl | omega | assumption | (exact hmm) | (rw [← hmm]; simp only [List.length_set]; omega) | (rw [← hml])))) trivial))))))) (by kernel_rfl)) ?_
            refine aw_r [(4, .call [1, 2, 3, 11380] (.tup [.one (.i (enS n flows bores need mm)), .one (.v (.bool (enB n flows bores need mm)))]) [])]
             ⟨189, [1, 2, 3], [(1, .ls 2), (3, .l (.ref 1003 0)), (5, .l (.ref 1005 0)), (7, .ls 10540), (8, .i (plS n.pipes (loadT n flows) bores need n.pump n.pipes.length)), (13, .i ((u : Nat) : Int)), (14, .i ((k : Nat) : Int)), (15, .i ((c : Nat) : Int)), (16, .ls 11380), (17, .i (enS n flows bores need mm)), (18, .b (enB n flows bores need mm))], [(1, some (cheapest_frK1 n)), (2, some (cheapest_frK2 flows)), (3, some (cheapest_frK3 bores)), (1003, some (.blk 24 [.i n.pump, .ls 1])), (1005, some (.blk 28 [.ls 3, .i need])), (10540, some (cheapest_frK8 n flows bores need)), (11380, some (.vec 3 1 mm.length (Lst eI mm)))]⟩
             [CallOK Try.prog 27 [.agg [.i n.pump, .ls 1], .ls 2, .agg [.ls 3, .i need], .ls 11380] [1, 2, 3, 11380] [some (cheapest_frK1 n), some (cheapest_frK2 flows), some (cheapest_frK3 bores), some (.vec 3 1 mm.length (Lst eI mm))] (.tup [.one (.i (enS n flows bores need mm)), .one (.v (.bool (enB n flows bores need mm)))]) []] (by kernel_rfl) (al1 (CallFr.to (enough_fr n flows bores need mm hE hC hml hmr) [(1, 1), (2, 2), (3, 3), (4, 11380)] (by kernel_rfl) (by kernel_rfl) (by kernel_rfl) (by kernel_rfl) (by kernel_rfl) (dem_cons rfl (le_ro rfl el_rfl) (dem_cons rfl (le_ro rfl el_rfl) (dem_cons rfl (le_ro rfl el_rfl) (dem_cons rfl (le_vec_ro rfl el_rfl) dem_nil)))))) ?_
            refine aw_seq ?_
            rcases Bool.eq_false_or_eq_true (enB n flows bores need mm) with h23 | h23
            ·
             have hch := cheap hE hC hall hml hmr h23
             have hes2 : enS n flows bores need mm = costE n.pipes bores mm n.pipes.length := enS_yes h23
             have h24 : (decide ((enS n flows bores need mm) < (plS n.pipes (loadT n flows) bores need n.pump n.pipes.length))) = false := by refine decide_eq_false ?_; rw [hes2]; omega
             rcases Bool.eq_false_or_eq_true (decide ((enS n flows bores need mm) = (plS n.pipes (loadT n flows) bores need n.pump n.pipes.length))) with h25 | h25
             ·
              have h25p : (enS n flows bores need mm) = (plS n.pipes (loadT n flows) bores need n.pump n.pipes.length) := dtr h25
              refine aw_r [(1, .dec true), (5, .dec false), (9, .dec true), (12, .call [11380, 10540] (.b (lessB mm ((plTo n.pipes (loadT n flows) bores need n.pump (n.pipes.length - 1)).2))) [])]
               ⟨189, [1, 2, 3], [(1, .ls 2), (3, .l (.ref 1003 0)), (5, .l (.ref 1005 0)), (7, .ls 10540), (8, .i (plS n.pipes (loadT n flows) bores need n.pump n.pipes.length)), (13, .i ((u : Nat) : Int)), (14, .i ((k : Nat) : Int)), (15, .i ((c : Nat) : Int)), (187, .b (lessB mm ((plTo n.pipes (loadT n flows) bores need n.pump (n.pipes.length - 1)).2)))], [(1, some (cheapest_frK1 n)), (2, some (cheapest_frK2 flows)), (3, some (cheapest_frK3 bores)), (1003, some (.blk 24 [.i n.pump, .ls 1])), (1005, some (.blk 28 [.ls 3, .i need])), (10540, some (cheapest_frK8 n flows bores need))]⟩
               [(enB n flows bores need mm) = true, decide ((enS n flows bores need mm) < (plS n.pipes (loadT n flows) bores need n.pump n.pipes.length)) = false, decide ((enS n flows bores need mm) = (plS n.pipes (loadT n flows) bores need n.pump n.pipes.length)) = true, CallOK Try.prog 29 [.ls 11380, .ls 10540] [11380, 10540] [some (.vec 3 1 mm.length (Lst eI mm)), some (cheapest_frK8 n flows bores need)] (.b (lessB mm ((plTo n.pipes (loadT n flows) bores need n.pump (n.pipes.length - 1)).2))) []] (by kernel_rfl) (al2 h23 (al2 h24 (al2 h25 (al1 (CallFr.to (smaller_fr mm ((plTo n.pipes (loadT n flows) bores need n.pump (n.pipes.length - 1)).2) (by omega) (by omega)) [(1, 11380), (2, 10540)] (by kernel_rfl) (by kernel_rfl) (by kernel_rfl) (by kernel_rfl) (by kernel_rfl) (dem_cons rfl (le_vec_ro rfl el_rfl) (dem_cons rfl (le_vec_ro (by first | rfl | omega | (simp only [List.length_set]; omega)) el_rfl) dem_nil))))))) ?_
              have h26 : ((lessB mm ((plTo n.pipes (loadT n flows) bores need n.pump (n.pipes.length - 1)).2))) = false := by exact hch.2 (hes2.symm.trans (dtr (by assumption)))
              refine aw_cond (b := (lessB mm ((plTo n.pipes (loadT n flows) bores need n.pump (n.pipes.length - 1)).2))) rfl (fun h => Bool.noConfusion (h26.symm.trans h)) (fun _ => ?_)
              refine aw_skip ?_
              refine aw_r [(1, .num (((c + 1) : Nat) : Int))]
               ⟨189, [1, 2, 3], [(1, .ls 2), (3, .l (.ref 1003 0)), (5, .l (.ref 1005 0)), (7, .ls 10540), (8, .i (plS n.pipes (loadT n flows) bores need n.pump n.pipes.length)), (13, .i ((u : Nat) : Int)), (14, .i ((k : Nat) : Int)), (15, .i (((c + 1) : Nat) : Int))], [(1, some (cheapest_frK1 n)), (2, some (cheapest_frK2 flows)), (3, some (cheapest_frK3 bores)), (1003, some (.blk 24 [.i n.pump, .ls 1])), (1005, some (.blk 28 [.ls 3, .i need])), (10540, some (cheapest_frK8 n flows bores need))]⟩
               [(((c : Nat) : Int) + 1) = (((c + 1) : Nat) : Int), -9223372036854775808 ≤ (((c + 1) : Nat) : Int) ∧ (((c + 1) : Nat) : Int) < 9223372036854775808] (by kernel_rfl) (al2 (by first | omega | rfl | assumption) (al1 (by first | omega | rfl | assumption))) ?_
              exact ⟨c + 1, (by first | omega | rfl | assumption | (simp; done)), (show bores.length * bores.length - (c + 1) < bores.length * bores.length - c by first | omega | rfl | assumption),
                  (Ent.ren [] rfl rfl (by kernel_rfl) ⟨rfl, rfl, rfl, rfl, rfl, rfl, rfl, rfl, trivial⟩ (cro rfl (cro rfl (cro rfl (cbl rfl rfl (cbl rfl rfl (cve rfl trivial)))))) (by kernel_rfl))⟩
             ·
              have h25p : (enS n flows bores need mm) ≠ (plS n.pipes (loadT n flows) bores need n.pump n.pipes.length) := deq h25
              refine aw_r [(1, .dec true), (5, .dec false), (9, .dec false)]
               ⟨189, [1, 2, 3], [(1, .ls 2), (3, .l (.ref 1003 0)), (5, .l (.ref 1005 0)), (7, .ls 10540), (8, .i (plS n.pipes (loadT n flows) bores need n.pump n.pipes.length)), (13, .i ((u : Nat) : Int)), (14, .i ((k : Nat) : Int)), (15, .i ((c : Nat) : Int)), (187, .b false)], [(1, some (cheapest_frK1 n)), (2, some (cheapest_frK2 flows)), (3, some (cheapest_frK3 bores)), (1003, some (.blk 24 [.i n.pump, .ls 1])), (1005, some (.blk 28 [.ls 3, .i need])), (10540, some (cheapest_frK8 n flows bores need))]⟩
               [(enB n flows bores need mm) = true, decide ((enS n flows bores need mm) < (plS n.pipes (loadT n flows) bores need n.pump n.pipes.length)) = false, decide ((enS n flows bores need mm) = (plS n.pipes (loadT n flows) bores need n.pump n.pipes.length)) = false] (by kernel_rfl) (al2 h23 (al2 h24 (al1 h25))) ?_
              refine aw_false rfl ?_
              refine aw_skip ?_
              refine aw_r [(1, .num (((c + 1) : Nat) : Int))]
               ⟨189, [1, 2, 3], [(1, .ls 2), (3, .l (.ref 1003 0)), (5, .l (.ref 1005 0)), (7, .ls 10540), (8, .i (plS n.pipes (loadT n flows) bores need n.pump n.pipes.length)), (13, .i ((u : Nat) : Int)), (14, .i ((k : Nat) : Int)), (15, .i (((c + 1) : Nat) : Int))], [(1, some (cheapest_frK1 n)), (2, some (cheapest_frK2 flows)), (3, some (cheapest_frK3 bores)), (1003, some (.blk 24 [.i n.pump, .ls 1])), (1005, some (.blk 28 [.ls 3, .i need])), (10540, some (cheapest_frK8 n flows bores need))]⟩
               [(((c : Nat) : Int) + 1) = (((c + 1) : Nat) : Int), -9223372036854775808 ≤ (((c + 1) : Nat) : Int) ∧ (((c + 1) : Nat) : Int) < 9223372036854775808] (by kernel_rfl) (al2 (by first | omega | rfl | assumption) (al1 (by first | omega | rfl | assumption))) ?_
              exact ⟨c + 1, (by first | omega | rfl | assumption | (simp; done)), (show bores.length * bores.length - (c + 1) < bores.length * bores.length - c by first | omega | rfl | assumption),
                  (Ent.ren [] rfl rfl (by kernel_rfl) ⟨rfl, rfl, rfl, rfl, rfl, rfl, rfl, rfl, trivial⟩ (cro rfl (cro rfl (cro rfl (cbl rfl rfl (cbl rfl rfl (cve rfl trivial)))))) (by kernel_rfl))⟩
            ·
             refine aw_r [(1, .dec false)]
              ⟨189, [1, 2, 3], [(1, .ls 2), (3, .l (.ref 1003 0)), (5, .l (.ref 1005 0)), (7, .ls 10540), (8, .i (plS n.pipes (loadT n flows) bores need n.pump n.pipes.length)), (13, .i ((u : Nat) : Int)), (14, .i ((k : Nat) : Int)), (15, .i ((c : Nat) : Int)), (187, .b false)], [(1, some (cheapest_frK1 n)), (2, some (cheapest_frK2 flows)), (3, some (cheapest_frK3 bores)), (1003, some (.blk 24 [.i n.pump, .ls 1])), (1005, some (.blk 28 [.ls 3, .i need])), (10540, some (cheapest_frK8 n flows bores need))]⟩
              [(enB n flows bores need mm) = false] (by kernel_rfl) (al1 h23) ?_
             refine aw_false rfl ?_
             refine aw_skip ?_
             refine aw_r [(1, .num (((c + 1) : Nat) : Int))]
              ⟨189, [1, 2, 3], [(1, .ls 2), (3, .l (.ref 1003 0)), (5, .l (.ref 1005 0)), (7, .ls 10540), (8, .i (plS n.pipes (loadT n flows) bores need n.pump n.pipes.length)), (13, .i ((u : Nat) : Int)), (14, .i ((k : Nat) : Int)), (15, .i (((c + 1) : Nat) : Int))], [(1, some (cheapest_frK1 n)), (2, some (cheapest_frK2 flows)), (3, some (cheapest_frK3 bores)), (1003, some (.blk 24 [.i n.pump, .ls 1])), (1005, some (.blk 28 [.ls 3, .i need])), (10540, some (cheapest_frK8 n flows bores need))]⟩
              [(((c : Nat) : Int) + 1) = (((c + 1) : Nat) : Int), -9223372036854775808 ≤ (((c + 1) : Nat) : Int) ∧ (((c + 1) : Nat) : Int) < 9223372036854775808] (by kernel_rfl) (al2 (by first | omega | rfl | assumption) (al1 (by first | omega | rfl | assumption))) ?_
             exact ⟨c + 1, (by first | omega | rfl | assumption | (simp; done)), (show bores.length * bores.length - (c + 1) < bores.length * bores.length - c by first | omega | rfl | assumption),
                 (Ent.ren [] rfl rfl (by kernel_rfl) ⟨rfl, rfl, rfl, rfl, rfl, rfl, rfl, rfl, trivial⟩ (cro rfl (cro rfl (cro rfl (cbl rfl rfl (cbl rfl rfl (cve rfl trivial)))))) (by kernel_rfl))⟩
         ·
          have h16p : (((bores.length * bores.length) : Nat) : Int) ≤ ((c : Nat) : Int) := dlt h16
          refine aw_exit (exit_then (exit_then (exit_in ?_)))
          refine aw_r [(1, .num (((k + 1) : Nat) : Int))]
           ⟨189, [1, 2, 3], [(1, .ls 2), (3, .l (.ref 1003 0)), (5, .l (.ref 1005 0)), (7, .ls 10540), (8, .i (plS n.pipes (loadT n flows) bores need n.pump n.pipes.length)), (13, .i ((u : Nat) : Int)), (14, .i (((k + 1) : Nat) : Int))], [(1, some (cheapest_frK1 n)), (2, some (cheapest_frK2 flows)), (3, some (cheapest_frK3 bores)), (1003, some (.blk 24 [.i n.pump, .ls 1])), (1005, some (.blk 28 [.ls 3, .i need])), (10540, some (cheapest_frK8 n flows bores need))]⟩
           [(((k : Nat) : Int) + 1) = (((k + 1) : Nat) : Int), -9223372036854775808 ≤ (((k + 1) : Nat) : Int) ∧ (((k + 1) : Nat) : Int) < 9223372036854775808] (by kernel_rfl) (al2 (by first | omega | rfl | assumption) (al1 (by first | omega | rfl | assumption))) ?_
          exact ⟨k + 1, ⟨(by first | omega | rfl | assumption | (simp; done)), (by first | omega | rfl | assumption | (simp; done))⟩, (show n.pipes.length - 1 - (k + 1) < n.pipes.length - 1 - k by first | omega | rfl | assumption),
              (Ent.ren [] rfl rfl (by kernel_rfl) ⟨rfl, rfl, rfl, rfl, rfl, rfl, rfl, trivial⟩ (cro rfl (cro rfl (cro rfl (cbl rfl rfl (cbl rfl rfl (cve rfl trivial)))))) (by kernel_rfl))⟩
        ·
         have h15p : (((n.pipes.length - 1) : Nat) : Int) ≤ ((k : Nat) : Int) := dlt h15
         refine aw_exit (exit_then (exit_then (exit_in ?_)))
         refine aw_r [(1, .num (((u + 1) : Nat) : Int))]
          ⟨189, [1, 2, 3], [(1, .ls 2), (3, .l (.ref 1003 0)), (5, .l (.ref 1005 0)), (7, .ls 10540), (8, .i (plS n.pipes (loadT n flows) bores need n.pump n.pipes.length)), (13, .i (((u + 1) : Nat) : Int))], [(1, some (cheapest_frK1 n)), (2, some (cheapest_frK2 flows)), (3, some (cheapest_frK3 bores)), (1003, some (.blk 24 [.i n.pump, .ls 1])), (1005, some (.blk 28 [.ls 3, .i need])), (10540, some (cheapest_frK8 n flows bores need))]⟩
          [(((u : Nat) : Int) + 1) = (((u + 1) : Nat) : Int), -9223372036854775808 ≤ (((u + 1) : Nat) : Int) ∧ (((u + 1) : Nat) : Int) < 9223372036854775808] (by kernel_rfl) (al2 (by first | omega | rfl | assumption) (al1 (by first | omega | rfl | assumption))) ?_
         exact ⟨u + 1, (by first | omega | rfl | assumption | (simp; done)), (show n.pipes.length - 1 - (u + 1) < n.pipes.length - 1 - u by first | omega | rfl | assumption),
             (Ent.ren [] rfl rfl (by kernel_rfl) ⟨rfl, rfl, rfl, rfl, rfl, rfl, trivial⟩ (cro rfl (cro rfl (cro rfl (cbl rfl rfl (cbl rfl rfl (cve rfl trivial)))))) (by kernel_rfl))⟩
       ·
        have h14p : (((n.pipes.length - 1) : Nat) : Int) ≤ ((u : Nat) : Int) := dlt h14
        refine aw_exit (exit_then (exit_then (exit_in ?_)))
        refine aw_seq ?_
        refine aw_r [(0, .call [] (.b true) [])]
         ⟨189, [1, 2, 3], [(6, .b true)], []⟩
         [CallOK Try.prog 15 [] [] [] (.b true) []] (by kernel_rfl) (al1 (CallFr.to (known_fr ) [] (by kernel_rfl) (by kernel_rfl) (by kernel_rfl) (by kernel_rfl) (by kernel_rfl) dem_nil)) ?_
        exact aw_ret ⟨.inr rfl, end_ok ⟨189, [1, 2, 3], [(6, .b true)], []⟩
            (Ent.ren [] rfl rfl (by kernel_rfl) ⟨rfl, trivial⟩ trivial (by kernel_rfl)) rfl (by kernel_rfl) wr_nil (by kernel_rfl)⟩
end Go.Proofs.Ytepibjfmeibgcaa
