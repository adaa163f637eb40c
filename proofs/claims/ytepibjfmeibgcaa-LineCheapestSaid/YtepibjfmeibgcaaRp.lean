/- Heights and climbs along ways. No program is in sight here. -/
import Derived.Test.YtepibjfmeibgcaaWl
import Derived.Test.YtepibjfmeibgcaaWg
namespace Go.Proofs.Ytepibjfmeibgcaa
def drp (ps : List Pipe) (i : Int) : Int := (pAt ps i.toNat).drop
/-- The height of a node: the drops along its way. -/
def hgtL (ps : List Pipe) (i : Int) : Int := ((wayL ps i).map (drp ps)).sum
theorem hgtL_step {ps : List Pipe} (ht : Tree ps) {i : Int} (h0 : 0 ≤ i) (hi : i < ps.length) : hgtL ps i = drp ps i + hgtL ps (par ps i) := by
  unfold hgtL; rw [wayL_step ht h0 hi]; rfl
theorem hgtL_neg (ps : List Pipe) {i : Int} (h : i < 0) : hgtL ps i = 0 := by unfold hgtL; rw [wayL_neg ps h]; rfl
theorem getD_append_left {l m : List Int} {i : Nat} (h : i < l.length) : (l ++ m).getD i 0 = l.getD i 0 := by
  rw [List.getD_eq_getElem?_getD, List.getElem?_append_left h, ← List.getD_eq_getElem?_getD]
theorem getD_append_at {l : List Int} {x : Int} {i : Nat} (h : i = l.length) : (l ++ [x]).getD i 0 = x := by
  subst h; rw [List.getD_eq_getElem?_getD]; simp
theorem take_next {ps : List Pipe} {k : Nat} (h : k + 1 < ps.length) : (ps.drop 1).take (k + 1) = (ps.drop 1).take k ++ [ps[k + 1]] := by
  rw [List.take_succ_eq_append_getElem (show k < (ps.drop 1).length by rw [List.length_drop]; omega)]
  congr 2
  rw [List.getElem_drop]; congr 1; omega
theorem par_nat {ps : List Pipe} {k : Nat} (h : k < ps.length) : par ps (k : Int) = ps[k].parent := by
  unfold par; rw [Int.toNat_natCast, List.getD_eq_getElem?_getD, List.getElem?_eq_getElem h]; rfl
theorem hts_way {ps : List Pipe} (ht : Tree ps) (h0 : 0 < ps.length) (hp : (pAt ps 0).drop = 0) : ∀ k, k < ps.length → ∀ j, j ≤ k → (hts ((ps.drop 1).take k) [0]).getD j 0 = hgtL ps (j : Int) := by
  intro k
  induction k with
  | zero =>
    intro _ j hj
    obtain rfl : j = 0 := by omega
    have h1 := ht 0 h0
    rw [hgtL_step ht (by omega) (by omega), show par ps ((0 : Nat) : Int) = -1 from h1.2.2.2 rfl, hgtL_neg ps (by omega)]
    simp [hts, drp, hp]
  | succ k ih =>
    intro hk j hj
    have hl : (hts ((ps.drop 1).take k) [0]).length = k + 1 := by rw [hts_length]; simp; omega
    rw [take_next hk, hts_snoc]
    by_cases hjk : j ≤ k
    · rw [getD_append_left (by omega)]; exact ih (by omega) j hjk
    · obtain rfl : j = k + 1 := by omega
      rw [getD_append_at hl.symm]
      have h1 := ht (k + 1) hk
      rw [par_nat hk] at h1
      have hne : ps[k + 1].parent ≠ -1 := fun h => by have := h1.2.2.1 h; omega
      rw [ih (by omega) ps[k + 1].parent.toNat (by omega), hgtL_step ht (i := ((k + 1 : Nat) : Int)) (by omega) (by omega), par_nat hk]
      rw [show ((ps[k + 1].parent.toNat : Nat) : Int) = ps[k + 1].parent by omega]
      unfold drp
      rw [Int.toNat_natCast, pAt_eq hk]; omega
theorem heightsL_way {ps : List Pipe} (ht : Tree ps) (hp : (pAt ps 0).drop = 0) {j : Nat} (hj : j < ps.length) : (heightsL ps).getD j 0 = hgtL ps (j : Int) := by
  have := hts_way ht (by omega) hp (ps.length - 1) (by omega) j (by omega)
  rw [List.take_of_length_le (by rw [List.length_drop]; omega)] at this
  exact this
/-- The greatest climb, pair by pair. -/
def innF (g : Int → Int) (x : Int) : List Int → Int → Int
  | [], m => m
  | y :: ys, m => innF g x ys (max m (g x - g y))
def outF (g : Int → Int) : List Int → List Int → Int → Int
  | _, [], m => m
  | seen, x :: xs, m => outF g (seen ++ [x]) xs (innF g x seen m)
def climbL (ps : List Pipe) (i : Int) : Int := outF (hgtL ps) [] (wayL ps i) 0
def prsLe (g : Int → Int) (B : Int) : List Int → List Int → Prop
  | _, [] => True
  | seen, x :: xs => (∀ y ∈ seen, g x - g y ≤ B) ∧ prsLe g B (seen ++ [x]) xs
theorem innF_le (g : Int → Int) (x B : Int) : ∀ (ys : List Int) (m : Int), innF g x ys m ≤ B ↔ m ≤ B ∧ ∀ y ∈ ys, g x - g y ≤ B := by
  intro ys
  induction ys with
  | nil => intro m; simp [innF]
  | cons y ys ih =>
    intro m
    simp only [innF, ih, List.mem_cons, forall_eq_or_imp]
    constructor
    · rintro ⟨h1, h2⟩; exact ⟨by omega, by omega, h2⟩
    · rintro ⟨h1, h2, h3⟩; exact ⟨by omega, h3⟩
theorem outF_le (g : Int → Int) (B : Int) : ∀ (xs seen : List Int) (m : Int), outF g seen xs m ≤ B ↔ m ≤ B ∧ prsLe g B seen xs := by
  intro xs
  induction xs with
  | nil => intro seen m; simp [outF, prsLe]
  | cons x xs ih =>
    intro seen m
    simp only [outF, ih, innF_le, prsLe, and_assoc]
theorem prsLe_seen (g : Int → Int) (B : Int) : ∀ (xs seen : List Int), prsLe g B seen xs ↔ (∀ x ∈ xs, ∀ y ∈ seen, g x - g y ≤ B) ∧ prsLe g B [] xs := by
  intro xs
  induction xs with
  | nil => intro seen; simp [prsLe]
  | cons x xs ih =>
    intro seen
    simp only [prsLe, List.nil_append]
    rw [ih (seen ++ [x]), ih [x]]
    constructor
    · rintro ⟨h1, h2, h3⟩
      refine ⟨fun z hz y hy => ?_, ⟨(fun y hy => by cases hy), fun z hz y hy => h2 z hz y (by simp at hy; simp [hy]), h3⟩⟩
      rcases List.mem_cons.1 hz with rfl | hz
      · exact h1 y hy
      · exact h2 z hz y (by simp [hy])
    · rintro ⟨h1, ⟨_, h2, h3⟩⟩
      refine ⟨fun y hy => h1 x (by simp) y hy, fun z hz y hy => ?_, h3⟩
      rw [List.mem_append] at hy
      rcases hy with hy | hy
      · exact h1 z (by simp [hz]) y hy
      · exact h2 z hz y hy
theorem eq_of_le_iff {a b : Int} (h : ∀ B, a ≤ B ↔ b ≤ B) : a = b := by
  have h1 := (h b).2 (Int.le_refl _)
  have h2 := (h a).1 (Int.le_refl _)
  omega
theorem outF_cons (g : Int → Int) (x : Int) (W : List Int) (M : Int) (hM : ∀ B, M ≤ B ↔ ∀ y ∈ W, g y ≤ B) : outF g [] (x :: W) 0 = max (outF g [] W 0) (M - g x) := by
  refine eq_of_le_iff fun B => ?_
  rw [outF_le]
  simp only [prsLe, List.nil_append]
  rw [prsLe_seen]
  have h1 : max (outF g [] W 0) (M - g x) ≤ B ↔ outF g [] W 0 ≤ B ∧ M ≤ B + g x := by omega
  rw [h1, outF_le, hM]
  constructor
  · rintro ⟨h0, _, h2, h3⟩
    exact ⟨⟨h0, h3⟩, fun y hy => by have := h2 y hy x (by simp); omega⟩
  · rintro ⟨⟨h0, h3⟩, h2⟩
    exact ⟨h0, (fun y hy => by cases hy), fun z hz y hy => by simp at hy; subst hy; have := h2 z hz; omega, h3⟩
theorem clF_way {ps : List Pipe} (ht : Tree ps) (h0 : 0 < ps.length) (hp : (pAt ps 0).drop = 0) : ∀ k, k < ps.length → ∀ j, j ≤ k →
    (clF (heightsL ps) ((ps.drop 1).take k) [0] [(heightsL ps).getD 0 0]).1.getD j 0 = climbL ps (j : Int) ∧ ∀ B, (clF (heightsL ps) ((ps.drop 1).take k) [0] [(heightsL ps).getD 0 0]).2.getD j 0 ≤ B ↔ ∀ y ∈ wayL ps (j : Int), hgtL ps y ≤ B := by
  intro k
  induction k with
  | zero =>
    intro _ j hj
    obtain rfl : j = 0 := by omega
    have h1 := ht 0 h0
    have hw : wayL ps ((0 : Nat) : Int) = [0] := by
      rw [wayL_step ht (by omega) (by omega), show par ps ((0 : Nat) : Int) = -1 from h1.2.2.2 rfl, wayL_neg ps (by omega)]; rfl
    have hh := heightsL_way ht hp h0
    refine ⟨?_, fun B => ?_⟩
    · unfold climbL; rw [hw]; simp [clF, outF, innF]
    · rw [hw]; simp only [List.take_zero, clF]; rw [show ([(heightsL ps).getD 0 0] : List Int).getD 0 0 = (heightsL ps).getD 0 0 from rfl, hh]; simp
  | succ k ih =>
    intro hk j hj
    obtain ⟨hl1, hl2⟩ := clF_len (heightsL ps) ((ps.drop 1).take k) [0] [(heightsL ps).getD 0 0]
    simp only [List.length_cons, List.length_nil, List.length_take, List.length_drop] at hl1 hl2
    rw [show 0 + 1 + min k (ps.length - 1) = k + 1 by omega] at hl1 hl2
    rw [take_next hk, clF_snoc]
    simp only
    by_cases hjk : j ≤ k
    · have := ih (by omega) j hjk
      rw [getD_append_left (by omega), getD_append_left (by omega)]
      exact this
    · obtain rfl : j = k + 1 := by omega
      have h1 := ht (k + 1) hk
      rw [par_nat hk] at h1
      have hne : ps[k + 1].parent ≠ -1 := fun h => by have := h1.2.2.1 h; omega
      obtain ⟨ih1, ih2⟩ := ih (by omega) ps[k + 1].parent.toNat (by omega)
      rw [show ((ps[k + 1].parent.toNat : Nat) : Int) = ps[k + 1].parent by omega] at ih1 ih2
      rw [getD_append_at hl1.symm, getD_append_at hl2.symm, hl1, heightsL_way ht hp hk]
      have hw : wayL ps ((k + 1 : Nat) : Int) = ((k + 1 : Nat) : Int) :: wayL ps ps[k + 1].parent := by
        rw [wayL_step ht (by omega) (by omega), par_nat hk]
      refine ⟨?_, fun B => ?_⟩
      · unfold climbL
        rw [hw, outF_cons _ _ _ _ ih2, ih1]; rfl
      · rw [hw]
        have := ih2 B
        simp only [List.mem_cons, forall_eq_or_imp]
        rw [← this]
        omega
theorem climbsL_way {ps : List Pipe} (ht : Tree ps) (hp : (pAt ps 0).drop = 0) {j : Nat} (hj : j < ps.length) : (climbsL ps).getD j 0 = climbL ps (j : Int) := by
  have := (clF_way ht (by omega) hp (ps.length - 1) (by omega) j (by omega)).1
  rw [List.take_of_length_le (by rw [List.length_drop]; omega)] at this
  exact this
end Go.Proofs.Ytepibjfmeibgcaa
