/- What flows through a pipe, and the vacuum at a node, node by node. No program is in sight here. -/
import Derived.Test.YtepibjfmeibgcaaRq
namespace Go.Proofs.Ytepibjfmeibgcaa
set_option linter.unusedVariables false
theorem sg_pre {a : Nat → Int} {n k : Nat} (hk : k ≤ n) (h : ∀ j, j < n → 0 ≤ a j) : sg k a ≤ sg n a := by
  induction n with
  | zero =>
    obtain rfl : k = 0 := by omega
    exact Int.le_refl _
  | succ n ih =>
    by_cases he : k = n + 1
    · subst he; exact Int.le_refl _
    · have := ih (by omega) (fun j hj => h j (by omega))
      have := h n (by omega)
      rw [sg_succ]; omega
/-- The nodes from which sap comes straight into a node. -/
def into (ps : List Pipe) (z : List Int) (x : Nat → Int) (j i : Nat) : Int := if j < i ∧ par ps i = (j : Int) ∧ memB z i = false then x i else 0
def ldR (ps : List Pipe) (f : Nat → Int) (z : List Int) : Nat → Nat → Int
  | 0, _ => 0
  | g + 1, j => f j + sg ps.length (into ps z (ldR ps f z g) j)
theorem ldR_more (ps : List Pipe) (f : Nat → Int) (z : List Int) : ∀ (g h j : Nat), j < ps.length → ps.length ≤ g + j → g ≤ h → ldR ps f z g j = ldR ps f z h j := by
  intro g
  induction g with
  | zero => intro h j h1 h2; omega
  | succ g ih =>
    intro h j h1 h2 h3
    obtain ⟨h, rfl⟩ : ∃ k, h = k + 1 := ⟨h - 1, by omega⟩
    unfold ldR
    congr 1
    apply sg_congr
    intro i hi
    unfold into
    by_cases hc : j < i ∧ par ps i = (j : Int) ∧ memB z i = false
    · rw [if_pos hc, if_pos hc]; exact ih h i hi (by have := hc.1; omega) (by omega)
    · rw [if_neg hc, if_neg hc]
/-- What flows through the pipe of a node. -/
def ldV (ps : List Pipe) (f : Nat → Int) (z : List Int) (j : Nat) : Int := ldR ps f z (ps.length - j) j
theorem ldV_eq (ps : List Pipe) (f : Nat → Int) (z : List Int) {j : Nat} (hj : j < ps.length) : ldV ps f z j = f j + sg ps.length (into ps z (ldV ps f z) j) := by
  unfold ldV
  obtain ⟨g, hg⟩ : ∃ g, ps.length - j = g + 1 := ⟨ps.length - j - 1, by omega⟩
  rw [hg, ldR]
  congr 1
  apply sg_congr
  intro i hi
  unfold into
  by_cases hc : j < i ∧ par ps i = (j : Int) ∧ memB z i = false
  · rw [if_pos hc, if_pos hc]; exact (ldR_more ps f z (ps.length - i) g i hi (by omega) (by have := hc.1; omega)).symm
  · rw [if_neg hc, if_neg hc]
/-- What has come into node j, when the nodes from m on are done. -/
def come (ps : List Pipe) (f : Nat → Int) (z : List Int) (m j : Nat) : Int := (if m ≤ j then f j else 0) + sg ps.length (fun i => if m ≤ i ∧ j < i ∧ par ps i = (j : Int) ∧ memB z i = false then ldV ps f z i else 0)
theorem come_done {ps : List Pipe} {f : Nat → Int} {z : List Int} {m j : Nat} (hj : j < ps.length) (h : m ≤ j) : come ps f z m j = ldV ps f z j := by
  rw [ldV_eq ps f z hj]
  unfold come
  rw [if_pos h]
  congr 1
  apply sg_congr
  intro i _
  unfold into
  by_cases hc : j < i ∧ par ps i = (j : Int) ∧ memB z i = false
  · rw [if_pos hc, if_pos ⟨by omega, hc⟩]
  · rw [if_neg hc, if_neg (fun h => hc h.2)]
theorem come_step (ps : List Pipe) (f : Nat → Int) (z : List Int) {m : Nat} (hm : m < ps.length) (j : Nat) :
    come ps f z m j = come ps f z (m + 1) j + (if j = m then f m else 0) + (if j < m ∧ par ps m = (j : Int) ∧ memB z m = false then ldV ps f z m else 0) := by
  have h := sg_pt (a := fun i => if m ≤ i ∧ j < i ∧ par ps i = (j : Int) ∧ memB z i = false then ldV ps f z i else 0) (b := fun _ => 0)
    (c := fun i => if m + 1 ≤ i ∧ j < i ∧ par ps i = (j : Int) ∧ memB z i = false then ldV ps f z i else 0)
    (d := fun i => if i = m then (if j < m ∧ par ps m = (j : Int) ∧ memB z m = false then ldV ps f z m else 0) else 0) ps.length (fun i _ => by
      by_cases he : i = m
      · subst he
        rw [if_pos rfl, if_neg (show ¬ (i + 1 ≤ i ∧ j < i ∧ par ps i = (j : Int) ∧ memB z i = false) from fun h => by omega)]
        by_cases hc : j < i ∧ par ps i = (j : Int) ∧ memB z i = false
        · rw [if_pos hc, if_pos ⟨Nat.le_refl _, hc⟩]; omega
        · rw [if_neg hc, if_neg (fun h => hc h.2)]
      · rw [if_neg he]
        by_cases hc : m ≤ i ∧ j < i ∧ par ps i = (j : Int) ∧ memB z i = false
        · rw [if_pos hc, if_pos ⟨by omega, hc.2⟩]
        · rw [if_neg hc, if_neg (fun h => hc ⟨by omega, h.2⟩)])
  rw [sg_zero, sg_one (fun _ => if j < m ∧ par ps m = (j : Int) ∧ memB z m = false then ldV ps f z m else 0) m, if_pos hm] at h
  unfold come
  have e : (if m ≤ j then f j else 0) = (if m + 1 ≤ j then f j else 0) + (if j = m then f m else 0) := by
    by_cases h1 : j = m
    · subst h1; rw [if_pos (Nat.le_refl _), if_pos rfl, if_neg (by omega)]; omega
    · by_cases h2 : m ≤ j
      · rw [if_pos h2, if_neg h1, if_pos (by omega)]; omega
      · rw [if_neg h2, if_neg h1, if_neg (by omega)]; omega
  omega
theorem ldStep_come {ps : List Pipe} (ht : Tree ps) {f : Nat → Int} {z l : List Int} {m : Nat} (hm : m < ps.length) (hl : l.length = ps.length) (h : ∀ j, j < ps.length → l.getD j 0 = come ps f z (m + 1) j) :
    (ldStep ps f z l m).length = ps.length ∧ ∀ j, j < ps.length → (ldStep ps f z l m).getD j 0 = come ps f z m j := by
  have hti := ht m hm
  have k1 : (l.set m (l.getD m 0 + f m)).length = ps.length := by simp [hl]
  have g1 : ∀ j, j < ps.length → (l.set m (l.getD m 0 + f m)).getD j 0 = come ps f z (m + 1) j + if j = m then f m else 0 := fun j hj => by
    rw [getD_set _ _ _ (by omega)]
    by_cases he : j = m
    · subst he; rw [if_pos rfl, if_pos rfl, h j hj]
    · rw [if_neg he, if_neg he, h j hj]; omega
  have gm : (l.set m (l.getD m 0 + f m)).getD m 0 = ldV ps f z m := by
    rw [← come_done hm (Nat.le_refl m), g1 m hm, come_step ps f z hm m, if_pos rfl, if_neg (show ¬ (m < m ∧ par ps m = (m : Int) ∧ memB z m = false) from fun h => by omega)]; omega
  unfold ldStep
  simp only
  split
  · rename_i hc
    generalize hL : l.set m (l.getD m 0 + f m) = L at *
    have hp0 : 0 ≤ par ps m := by
      have : par ps m ≠ -1 := fun h => by have := hti.2.2.1 h; omega
      omega
    refine ⟨by simp [k1], fun j hj => ?_⟩
    rw [getD_set _ _ _ (by omega), come_step ps f z hm j, gm]
    by_cases he : j = (par ps m).toNat
    · have hcc : j < m ∧ par ps m = (j : Int) ∧ memB z m = false := ⟨by omega, by omega, hc.2⟩
      rw [if_pos he, if_pos hcc, ← he, g1 j hj]
    · have hcc : ¬ (j < m ∧ par ps m = (j : Int) ∧ memB z m = false) := fun h => he (by omega)
      rw [if_neg he, if_neg hcc, g1 j hj]; omega
  · rename_i hc
    refine ⟨k1, fun j hj => ?_⟩
    rw [come_step ps f z hm j, g1 j hj, if_neg (show ¬ (j < m ∧ par ps m = (j : Int) ∧ memB z m = false) from fun h => hc ⟨by omega, h.2.2⟩)]; omega
theorem loads_come {ps : List Pipe} (ht : Tree ps) {f : Nat → Int} {z : List Int} : ∀ (m : Nat) (pre : List Nat), pre.length = m → pre <+: downTo ps.length →
    (pre.foldl (ldStep ps f z) (List.replicate ps.length 0)).length = ps.length ∧ ∀ j, j < ps.length → (pre.foldl (ldStep ps f z) (List.replicate ps.length 0)).getD j 0 = come ps f z (ps.length - m) j := by
  intro m
  induction m with
  | zero =>
    intro pre hl hp
    have : pre = [] := List.eq_nil_of_length_eq_zero hl
    subst this
    refine ⟨by simp, fun j hj => ?_⟩
    unfold come
    rw [if_neg (by omega), sg_congr (b := fun _ => 0) _ (fun i hi => if_neg (fun h => by omega)), sg_zero, List.foldl_nil, List.getD_eq_getElem?_getD]
    simp only [List.getElem?_replicate]
    split <;> rfl
  | succ m ih =>
    intro pre hl hp
    have hne : pre ≠ [] := by intro h; subst h; simp at hl
    obtain ⟨q, x, rfl⟩ : ∃ q x, pre = q ++ [x] := ⟨pre.dropLast, pre.getLast hne, (List.dropLast_concat_getLast hne).symm⟩
    have hql : q.length = m := by simpa using hl
    have hx := downTo_snoc hp
    have := ih q hql (List.IsPrefix.trans (List.prefix_append _ _) hp)
    rw [List.foldl_append]
    have e : ps.length - m = x + 1 := by omega
    have e2 : ps.length - (m + 1) = x := by omega
    rw [e] at this
    rw [e2]
    exact ldStep_come ht (by omega) this.1 this.2
theorem loadsL_len {ps : List Pipe} (ht : Tree ps) (f : Nat → Int) (z : List Int) : (loadsL ps f z).length = ps.length := (loads_come ht ps.length (downTo ps.length) (downTo_len _) (List.prefix_rfl)).1
theorem loadsL_at {ps : List Pipe} (ht : Tree ps) (f : Nat → Int) (z : List Int) {j : Nat} (hj : j < ps.length) : (loadsL ps f z).getD j 0 = ldV ps f z j := by
  have := (loads_come (f := f) (z := z) ht ps.length (downTo ps.length) (downTo_len _) (List.prefix_rfl)).2 j hj
  rw [Nat.sub_self, come_done hj (Nat.zero_le _)] at this
  exact this
theorem ldV_bd {ps : List Pipe} {f : Nat → Int} (z : List Int) (ht : Tree ps) (hn : ps.length ≤ 60) (hf : ∀ k, k < ps.length → 0 ≤ f k ∧ f k ≤ 1000000000) {j : Nat} (hj : j < ps.length) : 0 ≤ ldV ps f z j ∧ ldV ps f z j ≤ 60000000000 := by
  obtain ⟨h1, h2, _, h4⟩ := loadsL_inv (z := z) ht hn hf
  rw [← loadsL_at ht f z hj]
  refine ⟨?_, h4 j (Nat.zero_le _)⟩
  rw [List.getD_eq_getElem?_getD, List.getElem?_eq_getElem (by omega)]
  exact h2 _ (List.getElem_mem _)
theorem into_nonneg {ps : List Pipe} {f : Nat → Int} (z : List Int) (ht : Tree ps) (hn : ps.length ≤ 60) (hf : ∀ k, k < ps.length → 0 ≤ f k ∧ f k ≤ 1000000000) (j : Nat) {i : Nat} (hi : i < ps.length) : 0 ≤ into ps z (ldV ps f z) j i := by
  unfold into
  split
  · exact (ldV_bd z ht hn hf hi).1
  · omega
/-- What has come into a node from the nodes before i. -/
def ldTo (ps : List Pipe) (f : Nat → Int) (z : List Int) (j i : Nat) : Int := f j + sg i (into ps z (ldV ps f z) j)
theorem ldTo_full (ps : List Pipe) (f : Nat → Int) (z : List Int) {j : Nat} (hj : j < ps.length) : ldTo ps f z j ps.length = ldV ps f z j := (ldV_eq ps f z hj).symm
theorem ldTo_start (ps : List Pipe) (f : Nat → Int) (z : List Int) (j : Nat) : ldTo ps f z j (j + 1) = f j := by
  unfold ldTo
  rw [show sg (j + 1) (into ps z (ldV ps f z) j) = 0 from (sg_congr (b := fun _ => 0) _ (fun i hi => if_neg (fun h => by omega))).trans (sg_zero _)]; omega
theorem ldTo_succ (ps : List Pipe) (f : Nat → Int) (z : List Int) (j i : Nat) : ldTo ps f z j (i + 1) = ldTo ps f z j i + if j < i ∧ par ps i = (j : Int) ∧ memB z i = false then ldV ps f z i else 0 := by
  unfold ldTo; rw [sg_succ, into]; omega
theorem ldTo_bd {ps : List Pipe} {f : Nat → Int} (z : List Int) (ht : Tree ps) (hn : ps.length ≤ 60) (hf : ∀ k, k < ps.length → 0 ≤ f k ∧ f k ≤ 1000000000) {j i : Nat} (hj : j < ps.length) (hi : i ≤ ps.length) : 0 ≤ ldTo ps f z j i ∧ ldTo ps f z j i ≤ 60000000000 := by
  have h1 := ldV_bd z ht hn hf hj
  rw [← ldTo_full ps f z hj] at h1
  have h2 := sg_pre (a := into ps z (ldV ps f z) j) hi (fun k hk => into_nonneg z ht hn hf j hk)
  have h3 := sg_nonneg (a := into ps z (ldV ps f z) j) i (fun k hk => into_nonneg z ht hn hf j (by omega))
  have h4 := hf j hj
  unfold ldTo at *
  omega
/-- The vacuum at a node. -/
def vacV (pump : Int) (ps : List Pipe) (f : Nat → Int) (z : List Int) (j : Nat) : Int := (vacsL pump ps f z).getD j 0
theorem vacF_keep (loads z : List Int) (ps : List Pipe) : ∀ (vs : List Int) (j : Nat), j < vs.length → (vacF loads z ps vs).getD j 0 = vs.getD j 0 := by
  induction ps with
  | nil => intro vs j _; rfl
  | cons q ps ih => intro vs j hj; simp only [vacF]; rw [ih _ j (by simp; omega), getD_append_left hj]
theorem vacF_two (loads z : List Int) (ps : List Pipe) : ∀ (qs : List Pipe) (vs : List Int), vacF loads z (ps ++ qs) vs = vacF loads z qs (vacF loads z ps vs) := by
  induction ps with
  | nil => intro qs vs; rfl
  | cons q ps ih => intro qs vs; simp only [List.cons_append, vacF]; exact ih _ _
theorem vacsL_len (pump : Int) {ps : List Pipe} (f : Nat → Int) (z : List Int) (h : 1 ≤ ps.length) : (vacsL pump ps f z).length = ps.length := by
  unfold vacsL; rw [vacF_len]; simp; omega
theorem vacV_zero (pump : Int) (ps : List Pipe) (f : Nat → Int) (z : List Int) : vacV pump ps f z 0 = pump := by
  unfold vacV vacsL; rw [vacF_keep _ _ _ _ _ (by simp)]; rfl
theorem vacV_step (pump : Int) {ps : List Pipe} (ht : Tree ps) (f : Nat → Int) (z : List Int) {j : Nat} (h0 : 0 < j) (hj : j < ps.length) :
    vacV pump ps f z j = if memB z j then 0 else max 0 (vacV pump ps f z (par ps j).toNat - lossZ (pAt ps j) (ldV ps f z j)) := by
  have h1 := ht j hj
  have hp : (par ps j).toNat < j := by
    have : par ps j ≠ -1 := fun h => by have := h1.2.2.1 h; omega
    omega
  obtain ⟨k, rfl⟩ : ∃ k, j = k + 1 := ⟨j - 1, by omega⟩
  have e : ps.drop 1 = ((ps.drop 1).take k ++ [ps[k + 1]]) ++ (ps.drop 1).drop (k + 1) := by rw [← take_next hj, List.take_append_drop]
  have hv : vacsL pump ps f z = vacF (loadsL ps f z) z (((ps.drop 1).take k ++ [ps[k + 1]]) ++ (ps.drop 1).drop (k + 1)) [pump] := congrArg (fun l => vacF (loadsL ps f z) z l [pump]) e
  clear e
  have hl : (vacF (loadsL ps f z) z ((ps.drop 1).take k) [pump]).length = k + 1 := by rw [vacF_len]; simp; omega
  have hq : ∀ i, i < k + 1 → vacV pump ps f z i = (vacF (loadsL ps f z) z ((ps.drop 1).take k) [pump]).getD i 0 := fun i hi => by
    unfold vacV
    rw [hv, vacF_two, vacF_two, vacF_keep _ _ _ _ _ (by rw [vacF_len, hl]; simp; omega), vacF_keep _ _ _ _ _ (by omega)]
  have hpe : par ps ((k + 1 : Nat) : Int) = ps[k + 1].parent := par_nat hj
  rw [hq _ hp, hpe, pAt_eq hj, ← loadsL_at ht f z hj]
  have : vacV pump ps f z (k + 1) = (vacF (loadsL ps f z) z ((ps.drop 1).take k ++ [ps[k + 1]]) [pump]).getD (k + 1) 0 := by
    unfold vacV
    rw [hv, vacF_two, vacF_keep _ _ _ _ _ (by rw [vacF_len]; simp; omega)]
  rw [this, vacF_snoc, hl, getD_append_at hl.symm]
/-- The ranges of the loads, and of the vacuums, of the first nodes. -/
def pairT (a b : Nat → Int) (m : Nat) : List Rng := (List.range m).map fun j => ⟨a j, b j⟩
theorem pairT_succ (a b : Nat → Int) (m : Nat) : pairT a b (m + 1) = pairT a b m ++ [⟨a m, b m⟩] := by unfold pairT; rw [List.range_succ, List.map_append]; rfl
theorem pairT_len (a b : Nat → Int) (m : Nat) : (pairT a b m).length = m := by unfold pairT; simp
theorem pairL_T {x y : List Int} {a b : Nat → Int} {n : Nat} (hx : x.length = n) (hy : y.length = n) (ha : ∀ j, j < n → x.getD j 0 = a j) (hb : ∀ j, j < n → y.getD j 0 = b j) : pairL x y = pairT a b n := by
  apply List.ext_getElem
  · rw [pairL_len x y (by omega), pairT_len, hx]
  · intro j h1 h2
    rw [pairT_len] at h2
    have e1 := ha j h2
    have e2 := hb j h2
    rw [List.getD_eq_getElem?_getD, List.getElem?_eq_getElem (by omega)] at e1 e2
    simp only [Option.getD_some] at e1 e2
    have e3 : (pairL x y)[j] = ⟨x[j], y[j]⟩ := List.getElem_zipWith
    have e4 : (pairT a b n)[j]'(by rw [pairT_len]; omega) = ⟨a j, b j⟩ := (List.getElem_map _).trans (by rw [List.getElem_range])
    rw [e3, e4, e1, e2]
theorem loadsT {ps : List Pipe} (ht : Tree ps) (f g : Nat → Int) (z : List Int) : pairL (loadsL ps f z) (loadsL ps g z) = pairT (ldV ps f z) (ldV ps g z) ps.length :=
  pairL_T (loadsL_len ht f z) (loadsL_len ht g z) (fun _ hj => loadsL_at ht f z hj) (fun _ hj => loadsL_at ht g z hj)
theorem vacsT (pump : Int) {ps : List Pipe} (h : 1 ≤ ps.length) (f g : Nat → Int) (z : List Int) : pairL (vacsL pump ps f z) (vacsL pump ps g z) = pairT (vacV pump ps f z) (vacV pump ps g z) ps.length :=
  pairL_T (vacsL_len pump f z h) (vacsL_len pump g z h) (fun _ _ => rfl) (fun _ _ => rfl)
theorem vacV_bd (pump : Int) {ps : List Pipe} {f : Nat → Int} (z : List Int) (ht : Tree ps) (h0 : 0 ≤ pump) (hs : ∀ j, 0 < j → j < ps.length → 0 ≤ lossZ (pAt ps j) (ldV ps f z j)) : ∀ j, j < ps.length → 0 ≤ vacV pump ps f z j ∧ vacV pump ps f z j ≤ pump := by
  intro j
  induction j using Nat.strongRecOn with
  | _ j ih =>
    intro hj
    by_cases hz : j = 0
    · subst hz; rw [vacV_zero]; omega
    · have h1 := ht j hj
      have hp : par ps j ≠ -1 := fun h => by have := h1.2.2.1 h; omega
      have h2 := ih (par ps j).toNat (by omega) (by omega)
      have h3 := hs j (by omega) hj
      rw [vacV_step pump ht f z (by omega) hj]
      split <;> omega
end Go.Proofs.Ytepibjfmeibgcaa
