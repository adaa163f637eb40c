/- What flows through each pipe and what vacuum there is, as the program computes it, and how great the numbers are. No program is in sight here. -/
import Derived.Test.YtepibjfmeibgcaaSpec
namespace Go.Proofs.Ytepibjfmeibgcaa
/-- n - 1, .., 0. -/
def downTo (n : Nat) : List Nat := (List.range n).reverse
theorem downTo_succ (n : Nat) : downTo (n + 1) = n :: downTo n := by unfold downTo; rw [List.range_succ, List.reverse_append]; rfl
theorem downTo_len (n : Nat) : (downTo n).length = n := by simp [downTo]
theorem downTo_snoc {n : Nat} {pre : List Nat} {x : Nat} (h : pre ++ [x] <+: downTo n) : x + pre.length + 1 = n := by
  have hl := h.length_le
  rw [downTo_len] at hl; simp at hl
  obtain ⟨t, ht⟩ := h
  have h1 : (downTo n)[pre.length]? = some x := by rw [← ht]; simp
  unfold downTo at h1
  rw [List.getElem?_reverse (by simp; omega)] at h1
  rw [List.length_range, List.getElem?_range (by omega)] at h1
  have := Option.some.inj h1
  omega

theorem sum_nonneg {l : List Int} (h : ∀ x ∈ l, 0 ≤ x) : 0 ≤ l.sum := by
  induction l with
  | nil => simp
  | cons x l ih => have := h x (by simp); have := ih (fun y hy => h y (by simp [hy])); simp; omega
theorem getD_le_sum {l : List Int} (h : ∀ x ∈ l, 0 ≤ x) (m j : Nat) (hj : j < m) : l.getD j 0 ≤ (l.take m).sum := by
  induction l generalizing m j with
  | nil => simp
  | cons x l ih =>
    obtain ⟨m, rfl⟩ : ∃ k, m = k + 1 := ⟨m - 1, by omega⟩
    have h0 := h x (by simp)
    have hl : ∀ y ∈ l, 0 ≤ y := fun y hy => h y (by simp [hy])
    have hs : 0 ≤ (l.take m).sum := sum_nonneg fun y hy => hl y (List.mem_of_mem_take hy)
    cases j with
    | zero => simp; omega
    | succ j => have := ih hl m j (by omega); simp at this ⊢; omega
theorem sum_set {l : List Int} (m j : Nat) (v : Int) (hj : j < m) (hl : j < l.length) : ((l.set j v).take m).sum = (l.take m).sum - l.getD j 0 + v := by
  induction l generalizing m j with
  | nil => simp at hl
  | cons x l ih =>
    obtain ⟨m, rfl⟩ : ∃ k, m = k + 1 := ⟨m - 1, by omega⟩
    cases j with
    | zero => simp; omega
    | succ j => have := ih m j (by omega) (by simpa using hl); simp at this ⊢; omega
theorem sum_set_ge {l : List Int} (m j : Nat) (v : Int) (hj : m ≤ j) : ((l.set j v).take m).sum = (l.take m).sum := by
  rw [List.take_set, List.set_eq_of_length_le (by simp; omega)]
theorem sum_take_succ {l : List Int} (m : Nat) (hm : m < l.length) : (l.take (m + 1)).sum = (l.take m).sum + l.getD m 0 := by
  rw [List.take_succ_eq_append_getElem hm, List.sum_append, List.getD_eq_getElem?_getD, List.getElem?_eq_getElem hm]; simp
theorem getD_set {l : List Int} (j i : Nat) (v : Int) (hl : j < l.length) : (l.set j v).getD i 0 = if i = j then v else l.getD i 0 := by
  rw [List.getD_eq_getElem?_getD, List.getElem?_set]
  by_cases h : j = i
  · subst h; simp [hl]
  · rw [if_neg h, if_neg (fun e => h e.symm), List.getD_eq_getElem?_getD]
theorem mem_set {l : List Int} {j : Nat} {v x : Int} (h : x ∈ l.set j v) : x ∈ l ∨ x = v := List.mem_or_eq_of_mem_set h

/-- One step of the loads: what comes into node i, and what it hands on. -/
def ldStep (ps : List Pipe) (f : Nat → Int) (z : List Int) (l : List Int) (i : Nat) : List Int :=
  let l1 := l.set i (l.getD i 0 + f i)
  if 0 < i ∧ memB z i = false then l1.set (par ps i).toNat (l1.getD (par ps i).toNat 0 + l1.getD i 0) else l1
/-- What flows through each pipe. -/
def loadsL (ps : List Pipe) (f : Nat → Int) (z : List Int) : List Int := (downTo ps.length).foldl (ldStep ps f z) (List.replicate ps.length 0)
def LdInv (n : Nat) (l : List Int) (m : Nat) : Prop := l.length = n ∧ (∀ x ∈ l, 0 ≤ x) ∧ (l.take m).sum ≤ ((n : Int) - m) * 1000000000 ∧ ∀ j, m ≤ j → l.getD j 0 ≤ 60000000000
theorem ldStep_inv {ps : List Pipe} {f : Nat → Int} {z l : List Int} {i : Nat} (ht : Tree ps) (hn : ps.length ≤ 60) (hf : ∀ k, k < ps.length → 0 ≤ f k ∧ f k ≤ 1000000000) (hi : i < ps.length) (h : LdInv ps.length l (i + 1)) :
    LdInv ps.length (ldStep ps f z l i) i := by
  obtain ⟨h1, h2, h3, h4⟩ := h
  have hfi := hf i hi
  have hti := ht i hi
  have g0 := getD_le_sum h2 (i + 1) i (by omega)
  have gs := sum_take_succ (l := l) i (by omega)
  have gn : 0 ≤ l.getD i 0 := by
    rw [List.getD_eq_getElem?_getD, List.getElem?_eq_getElem (by omega)]; exact h2 _ (List.getElem_mem _)
  have hc : ((ps.length : Int) - ((i + 1 : Nat) : Int)) * 1000000000 = ((ps.length : Int) - i) * 1000000000 - 1000000000 := by
    rw [Int.natCast_add, Int.sub_mul, Int.add_mul, Int.sub_mul]; omega
  rw [hc] at h3
  have hb : ((ps.length : Int) - i) * 1000000000 ≤ 60000000000 := by omega
  have k1 : (l.set i (l.getD i 0 + f i)).length = ps.length := by simp [h1]
  have k2 : ∀ x ∈ l.set i (l.getD i 0 + f i), 0 ≤ x := fun x hx => by
    rcases mem_set hx with hx | hx
    · exact h2 x hx
    · omega
  have k3 : ((l.set i (l.getD i 0 + f i)).take i).sum = (l.take i).sum := sum_set_ge i i _ (Nat.le_refl _)
  have k5 : (l.set i (l.getD i 0 + f i)).getD i 0 = l.getD i 0 + f i := by rw [getD_set _ _ _ (by omega), if_pos rfl]
  have k4 : ∀ j, i ≤ j → (l.set i (l.getD i 0 + f i)).getD j 0 ≤ 60000000000 := fun j hj => by
    rw [getD_set _ _ _ (by omega)]
    split
    · omega
    · exact h4 j (by omega)
  unfold ldStep
  simp only
  split
  · rename_i hcond
    generalize hL : l.set i (l.getD i 0 + f i) = L at *
    have hp0 : 0 ≤ par ps i := by
      have : par ps i ≠ -1 := fun h => by have := hti.2.2.1 h; omega
      omega
    have hp1 : (par ps i).toNat < i := by omega
    have gp : 0 ≤ L.getD (par ps i).toNat 0 := by
      rw [List.getD_eq_getElem?_getD, List.getElem?_eq_getElem (by omega)]; exact k2 _ (List.getElem_mem _)
    refine ⟨by simp [k1], fun x hx => ?_, ?_, fun j hj => ?_⟩
    · rcases mem_set hx with hx | hx
      · exact k2 x hx
      · omega
    · rw [sum_set i _ _ hp1 (by omega)]; omega
    · rw [getD_set _ _ _ (by omega), if_neg (by omega)]; exact k4 j hj
  · exact ⟨k1, k2, by omega, k4⟩
theorem loads_inv {ps : List Pipe} {f : Nat → Int} {z : List Int} (ht : Tree ps) (hn : ps.length ≤ 60) (hf : ∀ k, k < ps.length → 0 ≤ f k ∧ f k ≤ 1000000000) :
    ∀ (m : Nat) (pre : List Nat), pre.length = m → pre <+: downTo ps.length → LdInv ps.length (pre.foldl (ldStep ps f z) (List.replicate ps.length 0)) (ps.length - m) := by
  intro m
  induction m with
  | zero =>
    intro pre hl hp
    have : pre = [] := List.eq_nil_of_length_eq_zero hl
    subst this
    refine ⟨by simp, fun x hx => by have := List.eq_of_mem_replicate hx; omega, ?_, fun j hj => ?_⟩
    · have : ∀ k, ((List.replicate k (0 : Int))).sum = 0 := fun k => by induction k with
        | zero => rfl
        | succ k ih => simp [List.replicate_succ, ih]
      simp [List.take_replicate, this]
    · rw [List.getD_eq_getElem?_getD]; simp [List.getElem?_replicate]; split <;> simp
  | succ m ih =>
    intro pre hl hp
    have hne : pre ≠ [] := by intro h; subst h; simp at hl
    obtain ⟨q, x, rfl⟩ : ∃ q x, pre = q ++ [x] := ⟨pre.dropLast, pre.getLast hne, (List.dropLast_concat_getLast hne).symm⟩
    have hql : q.length = m := by simpa using hl
    have hx := downTo_snoc hp
    have := ih q hql (List.IsPrefix.trans (List.prefix_append _ _) hp)
    rw [List.foldl_append]
    have e : ps.length - m = x + 1 := by omega
    have e2 : ps.length - (m + 1) = x := by omega
    rw [e] at this
    rw [e2]
    exact ldStep_inv ht hn hf (by omega) this
theorem loadsL_inv {ps : List Pipe} {f : Nat → Int} {z : List Int} (ht : Tree ps) (hn : ps.length ≤ 60) (hf : ∀ k, k < ps.length → 0 ≤ f k ∧ f k ≤ 1000000000) : LdInv ps.length (loadsL ps f z) 0 := by
  have := loads_inv (z := z) ht hn hf ps.length (downTo ps.length) (downTo_len _) (List.prefix_rfl)
  rwa [Nat.sub_self] at this

/-- The vacuums of the nodes behind the pump, on top of a list. -/
def vacF (loads z : List Int) : List Pipe → List Int → List Int
  | [], vs => vs
  | p :: ps, vs => vacF loads z ps (vs ++ [if memB z vs.length then 0 else max 0 (vs.getD p.parent.toNat 0 - lossZ p (loads.getD vs.length 0))])
def vacsL (pump : Int) (ps : List Pipe) (f : Nat → Int) (z : List Int) : List Int := vacF (loadsL ps f z) z (ps.drop 1) [pump]
theorem vacF_snoc (loads z : List Int) (ps : List Pipe) (p : Pipe) : ∀ vs, vacF loads z (ps ++ [p]) vs = vacF loads z ps vs ++ [if memB z (vacF loads z ps vs).length then 0 else max 0 ((vacF loads z ps vs).getD p.parent.toNat 0 - lossZ p (loads.getD (vacF loads z ps vs).length 0))] := by
  induction ps with
  | nil => intro vs; rfl
  | cons q ps ih => intro vs; simp only [List.cons_append, vacF]; exact ih _
theorem vacF_len (loads z : List Int) (ps : List Pipe) : ∀ vs, (vacF loads z ps vs).length = vs.length + ps.length := by
  induction ps with
  | nil => intro vs; rfl
  | cons q ps ih => intro vs; simp only [vacF, ih, List.length_append, List.length_cons, List.length_nil]; omega
end Go.Proofs.Ytepibjfmeibgcaa
