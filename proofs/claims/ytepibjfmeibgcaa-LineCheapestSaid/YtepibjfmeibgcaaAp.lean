/- With more flow no load is less and no vacuum greater; with a wider bore no vacuum is less; what arrives at the pump. No program is in sight here. -/
import Derived.Test.YtepibjfmeibgcaaRl
namespace Go.Proofs.Ytepibjfmeibgcaa
set_option linter.unusedVariables false
theorem sg_mono {a b : Nat → Int} (n : Nat) (h : ∀ j, j < n → a j ≤ b j) : sg n a ≤ sg n b := by
  induction n with
  | zero => exact Int.le_refl _
  | succ n ih =>
    have h1 := ih (fun j hj => h j (by omega))
    have h2 := h n (by omega)
    rw [sg_succ, sg_succ]; omega
theorem sg_add (a b : Nat → Int) (n : Nat) : sg n (fun j => a j + b j) = sg n a + sg n b := by
  induction n with
  | zero => rfl
  | succ n ih => rw [sg_succ, sg_succ, sg_succ, ih]; omega
theorem sg_swap (a : Nat → Nat → Int) (m n : Nat) : sg m (fun i => sg n (fun j => a i j)) = sg n (fun j => sg m (fun i => a i j)) := by
  induction m with
  | zero => exact ((sg_congr _ (fun j _ => rfl)).trans (sg_zero n)).symm
  | succ m ih =>
    rw [sg_succ, ih, ← sg_add]
    exact sg_congr _ (fun j _ => (sg_succ m _).symm)
theorem sg_only {a : Nat → Int} {n m : Nat} (hm : m < n) (h : ∀ j, j < n → j ≠ m → a j = 0) : sg n a = a m := by
  rw [sg_congr (b := fun i => if i = m then a i else 0) n (fun j hj => by
    by_cases he : j = m
    · rw [if_pos he]
    · rw [if_neg he, h j hj he]), sg_one a m, if_pos hm]
theorem ldR_mono {ps : List Pipe} {f g : Nat → Int} {z : List Int} (h : ∀ k, k < ps.length → f k ≤ g k) : ∀ (e j : Nat), j < ps.length → ldR ps f z e j ≤ ldR ps g z e j := by
  intro e
  induction e with
  | zero => intro j _; exact Int.le_refl _
  | succ e ih =>
    intro j hj
    have h1 := h j hj
    have h2 := sg_mono (a := into ps z (ldR ps f z e) j) (b := into ps z (ldR ps g z e) j) ps.length (fun i hi => by
      unfold into
      split
      · exact ih i hi
      · exact Int.le_refl _)
    simp only [ldR]
    omega
theorem ldV_mono {ps : List Pipe} {f g : Nat → Int} {z : List Int} (h : ∀ k, k < ps.length → f k ≤ g k) {j : Nat} (hj : j < ps.length) : ldV ps f z j ≤ ldV ps g z j := ldR_mono h _ j hj
theorem par_eq {ps qs : List Pipe} (hl : qs.length = ps.length) (hp : ∀ k, k < ps.length → par qs k = par ps k) (f : Nat → Int) (z : List Int) : ∀ (e j : Nat), ldR qs f z e j = ldR ps f z e j := by
  intro e
  induction e with
  | zero => intro j; rfl
  | succ e ih =>
    intro j
    simp only [ldR]
    rw [hl]
    congr 1
    apply sg_congr
    intro i hi
    unfold into
    rw [hp i hi, ih i]
theorem ldV_eqp {ps qs : List Pipe} (hl : qs.length = ps.length) (hp : ∀ k, k < ps.length → par qs k = par ps k) (f : Nat → Int) (z : List Int) (j : Nat) : ldV qs f z j = ldV ps f z j := by
  unfold ldV; rw [hl]; exact par_eq hl hp f z _ _
/-- What a pipe's loss needs. -/
theorem lossN_den {p : Pipe} (hp : PipeOk p) : 160000 ≤ 10000 * p.bore * p.bore := by
  obtain ⟨l0, l1, b0, b1, d0, d1⟩ := hp
  have k2 : 16 ≤ p.bore * p.bore := Int.le_trans (by omega) (Int.mul_le_mul b0 b0 (by omega) (by omega))
  have e : 10000 * p.bore * p.bore = 10000 * (p.bore * p.bore) := Int.mul_assoc _ _ _
  omega
theorem loss_more {p : Pipe} (hp : PipeOk p) {a b : Int} (h : a ≤ b) : lossZ p a ≤ lossZ p b := by
  have hd := lossN_den hp
  have hm : p.length * a ≤ p.length * b := Int.mul_le_mul_of_nonneg_left h (by have := hp.1; omega)
  have : lossN p a ≤ lossN p b := by
    unfold lossN
    exact Int.ediv_le_ediv (by omega) (by omega)
  unfold lossZ; omega
theorem ceil_wide {x d e : Int} (hx : 0 ≤ x) (hd : 0 < d) (he : d ≤ e) : (x + e - 1) / e ≤ (x + d - 1) / d := by
  have h1 := Int.mul_ediv_add_emod (x + d - 1) d
  have h2 := Int.emod_lt_of_pos (x + d - 1) hd
  have h0 : 0 ≤ (x + d - 1) / d := Int.ediv_nonneg (by omega) (by omega)
  generalize (x + d - 1) / d = q at *
  have h3 : x ≤ d * q := by omega
  have h4 : d * q ≤ e * q := Int.mul_le_mul_of_nonneg_right he h0
  have h5 : (x + e - 1) / e < q + 1 := Int.ediv_lt_of_lt_mul (by omega) (by rw [Int.add_mul, Int.mul_comm q e]; omega)
  omega
theorem loss_wide {p q : Pipe} (hp : PipeOk p) (hq : PipeOk q) (h1 : q.length = p.length) (h2 : q.drop = p.drop) (h3 : p.bore ≤ q.bore) {a : Int} (h0 : 0 ≤ a) : lossZ q a ≤ lossZ p a := by
  have hd := lossN_den hp
  have hx : 0 ≤ p.length * a := Int.mul_nonneg (by have := hp.1; omega) h0
  have he : 10000 * p.bore * p.bore ≤ 10000 * q.bore * q.bore := by
    rw [Int.mul_assoc, Int.mul_assoc]
    have : p.bore * p.bore ≤ q.bore * q.bore := Int.mul_le_mul h3 h3 (by have := hp.2.2.1; omega) (by have := hq.2.2.1; omega)
    omega
  have : lossN q a ≤ lossN p a := by
    unfold lossN
    rw [h1]
    exact ceil_wide hx (by omega) he
  unfold lossZ
  rw [h2]
  omega
/-- Less loss in each pipe, no less vacuum at each node. -/
theorem vacV_le {pump : Int} {ps qs : List Pipe} (hl : qs.length = ps.length) (hp : ∀ k, k < ps.length → par qs k = par ps k) (ht : Tree ps) (hq : Tree qs) (f g : Nat → Int) (z : List Int)
    (h : ∀ j, 0 < j → j < ps.length → lossZ (pAt qs j) (ldV qs g z j) ≤ lossZ (pAt ps j) (ldV ps f z j)) : ∀ j, j < ps.length → vacV pump ps f z j ≤ vacV pump qs g z j := by
  intro j
  induction j using Nat.strongRecOn with
  | _ j ih =>
    intro hj
    by_cases hz : j = 0
    · subst hz; rw [vacV_zero, vacV_zero]; exact Int.le_refl _
    · have h1 := ht j hj
      have hne : par ps j ≠ -1 := fun h => by have := h1.2.2.1 h; omega
      have h2 := ih (par ps j).toNat (by omega) (by omega)
      have h3 := h j (by omega) hj
      rw [vacV_step pump ht f z (by omega) hj, vacV_step pump hq g z (by omega) (by omega), hp j hj]
      split <;> omega
theorem vacV_down {pump : Int} {ps : List Pipe} (ht : Tree ps) (f : Nat → Int) (z : List Int) (h0 : 0 ≤ pump) (hs : ∀ j, 0 < j → j < ps.length → 0 ≤ lossZ (pAt ps j) (ldV ps f z j)) {j : Nat} (hj0 : 0 < j) (hj : j < ps.length) : vacV pump ps f z j ≤ vacV pump ps f z (par ps j).toNat := by
  have h1 := ht j hj
  have hne : par ps j ≠ -1 := fun h => by have := h1.2.2.1 h; omega
  have h2 := vacV_bd pump z ht h0 hs (par ps j).toNat (by omega)
  have h3 := hs j hj0 hj
  rw [vacV_step pump ht f z hj0 hj]
  split <;> omega
/-- The load of the pump is what comes into the nodes whose ways have no frozen pipe. -/
theorem arrive {ps : List Pipe} (ht : Tree ps) (f : Nat → Int) {ice : Nat} (hi : 1 ≤ ice) (hl : ice < ps.length) : sg ps.length (fun i => if memB (wayL ps i) ice then 0 else f i) = ldV ps f [(ice : Int)] 0 := by
  have hz : ∀ i : Nat, memB [(ice : Int)] (i : Int) = decide (i = ice) := fun i => by
    rw [memB_cons]; unfold memB; simp; omega
  have hst : ∀ i : Nat, 1 ≤ i → i < ps.length → (∃ p : Nat, p < i ∧ par ps i = (p : Int)) := fun i h1 h2 => by
    have := ht i h2
    have hne : par ps i ≠ -1 := fun h => by have := this.2.2.1 h; omega
    exact ⟨(par ps i).toNat, by omega, by omega⟩
  have hbad : ∀ i : Nat, i < ps.length → ∀ p : Nat, par ps i = (p : Int) → memB (wayL ps i) ice = (decide (ice = i) || memB (wayL ps p) ice) := fun i h1 p hp => by
    rw [wayL_step ht (by omega) (by omega), memB_cons, hp]
    congr 1
    by_cases h : ice = i
    · subst h; simp
    · rw [decide_eq_false h, decide_eq_false (by omega)]
  have h00 : memB (wayL ps (0 : Nat)) ice = false := by
    have h0 := ht 0 (by omega)
    rw [wayL_step ht (by omega) (by omega), memB_cons, show par ps ((0 : Nat) : Int) = -1 from h0.2.2.2 rfl, wayL_neg ps (by omega)]
    rw [decide_eq_false (by omega)]; rfl
  -- each node's load, where the way is free
  have e1 : sg ps.length (fun j => if memB (wayL ps j) ice then 0 else ldV ps f [(ice : Int)] j) = sg ps.length (fun i => if memB (wayL ps i) ice then 0 else f i) + sg ps.length (fun j => sg ps.length (fun i => if memB (wayL ps j) ice then 0 else into ps [(ice : Int)] (ldV ps f [(ice : Int)]) j i)) := by
    rw [← sg_add]
    apply sg_congr
    intro j hj
    by_cases hb : memB (wayL ps j) ice = true
    · simp only [hb, if_true]; rw [sg_zero]; rfl
    · have hb : memB (wayL ps j) ice = false := by simpa using hb
      simp only [hb, Bool.false_eq_true, if_false]; exact ldV_eq ps f _ hj
  have e2 : sg ps.length (fun j => sg ps.length (fun i => if memB (wayL ps j) ice then 0 else into ps [(ice : Int)] (ldV ps f [(ice : Int)]) j i)) = sg ps.length (fun i => if i = 0 then 0 else if memB (wayL ps i) ice then 0 else ldV ps f [(ice : Int)] i) := by
    rw [sg_swap]
    apply sg_congr
    intro i hi'
    by_cases h0 : i = 0
    · subst h0
      rw [if_pos rfl, sg_congr (b := fun _ => 0) _ (fun j hj => by rw [show into ps [(ice : Int)] (ldV ps f [(ice : Int)]) j 0 = 0 from if_neg (fun h => by omega)]; split <;> rfl), sg_zero]
    · rw [if_neg h0]
      obtain ⟨p, hp1, hp2⟩ := hst i (by omega) hi'
      rw [sg_only (m := p) (by omega) (fun j hj hne => by
        rw [show into ps [(ice : Int)] (ldV ps f [(ice : Int)]) j i = 0 from if_neg (fun h => hne (by have := h.2.1; omega))]; split <;> rfl)]
      rw [hbad i hi' p hp2]
      unfold into
      rw [hz i]
      by_cases hb : memB (wayL ps p) ice = true
      · simp only [hb, if_true, Bool.or_true]
      · have hb : memB (wayL ps p) ice = false := by simpa using hb
        simp only [hb, Bool.false_eq_true, if_false, Bool.or_false]
        by_cases hii : i = ice
        · subst hii
          rw [if_neg (by simp), decide_eq_true rfl, if_pos rfl]
        · rw [if_pos ⟨hp1, hp2, decide_eq_false hii⟩, decide_eq_false (fun h => hii h.symm)]; rfl
  have e3 : sg ps.length (fun j => if memB (wayL ps j) ice then 0 else ldV ps f [(ice : Int)] j) = ldV ps f [(ice : Int)] 0 + sg ps.length (fun i => if i = 0 then 0 else if memB (wayL ps i) ice then 0 else ldV ps f [(ice : Int)] i) := by
    have h5 := sg_only (a := fun i => if i = 0 then ldV ps f [(ice : Int)] 0 else 0) (n := ps.length) (m := 0) (by omega) (fun j _ hne => if_neg hne)
    simp only [if_true] at h5
    rw [← h5, ← sg_add]
    apply sg_congr
    intro j hj
    by_cases h0 : j = 0
    · subst h0; rw [h00]; simp
    · rw [if_neg h0, if_neg h0]; omega
  omega
end Go.Proofs.Ytepibjfmeibgcaa
